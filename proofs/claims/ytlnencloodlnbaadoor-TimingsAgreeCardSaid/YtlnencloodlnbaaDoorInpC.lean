/- The walks of Tidy, Frames, HeldAt and their references, and of slices' Index, Contains and Equal. -/
import Derived.Test.YtlnencloodlnbaaDoorInpB
import Derived.Test.YtlnencloodlnbaaDoorInpP
namespace Go.Proofs.YtlnencloodlnbaaDoor
open Go.RowKit

theorem ret2_is {a b c d : Value} (h1 : a = c) (h2 : b = d) : Ending.returned (.tuple #[a, b]) = .returned (.tuple #[c, d]) := by rw [h1, h2]

def btns : List Int := [1, 2, 4, 8, 16, 32]
def btnFault (b : Int) : Int := if b ∈ btns then 0 else 4

end Go.Proofs.YtlnencloodlnbaaDoor
