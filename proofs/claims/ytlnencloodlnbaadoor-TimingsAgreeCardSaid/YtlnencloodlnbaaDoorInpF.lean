/- The walks of slices.Equal over pieces, and of the law's own small test. -/
import Derived.Test.YtlnencloodlnbaaDoorInpE
namespace Go.Proofs.YtlnencloodlnbaaDoor
open Go.RowKit

theorem pressR_ex : pressR [(1, 3), (0, 1), (1, 1)] 1 = 2 := by decide
theorem pressE_ex : pressE [(1, 3), (0, 1), (1, 1)] 1 = 0 := by decide

end Go.Proofs.YtlnencloodlnbaaDoor
