/- Texts of this seat, laid together: SortD. -/
import Derived.Test.YtapjahbflhingaaGreatDoorBu14
/- What is asked of slices.Sort over integers; it is paid out of the library's contract. -/
namespace Go.Proofs.YtapjahbflhingaaGreatDoor
set_option linter.unusedVariables false
set_option linter.unusedSimpArgs false
open Go.RowKit

def SortsI : Prop := ∀ (g c base : Nat) (zs : List Int) (w : World), w.ownsRow base 3 1 (.slice (some ⟨g, 0, none⟩) zs.length c) zs.length (ints zs) → zs.length ≤ 1000000000 →
    Calls Tryz.prog 89 #[.slice (some ⟨g, 0, none⟩) zs.length c] w fun e w' => e = .returned (.tuple #[]) ∧ w'.ownsRow base 3 1 (.slice (some ⟨g, 0, none⟩) zs.length c) zs.length (ints (sorted zs)) ∧ w.grownBy w' (some g)
end Go.Proofs.YtapjahbflhingaaGreatDoor
