/- Texts of this seat, laid together: He. -/
import Derived.Handy
import Derived.Test.YtggnccafmadacaaGreatDoorBu30
import Derived.Test.YtggnccafmadacaaGreatDoorBu04
/- The walks of segment.golds and Golds, of splitref1.RowOf and GoldsOf at a right history. -/
namespace Go.Proofs.YtggnccafmadacaaGreatDoor
set_option linter.unusedVariables false
set_option linter.unusedSimpArgs false
open Go.RowKit

theorem goldA_none {atts : List Att} {k : Nat} (h : (sorted (rowA atts k)).length = 0) : goldA atts k = 0 := by
  unfold goldA
  rw [List.eq_nil_of_length_eq_zero h]; rfl
theorem goldA_some {atts : List Att} {k : Nat} (h : 0 < (sorted (rowA atts k)).length) : goldA atts k = (sorted (rowA atts k))[0] := by
  unfold goldA
  rw [List.headD_eq_head?_getD, List.head?_eq_getElem?, List.getElem?_eq_getElem h]; rfl
end Go.Proofs.YtggnccafmadacaaGreatDoor
