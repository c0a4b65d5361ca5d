/- Texts of this seat, laid together: MkK. -/
import Derived.Test.YtoppiafgeeodlaaGreatBu30
/- The walk of the reference's shifted. -/
namespace Go.Proofs.YtoppiafgeeodlaaGreat
set_option linter.unusedVariables false
set_option linter.unusedSimpArgs false
open Go.RowKit

theorem shF_ref (all d last : Int) (x : Mk) (f : Int) (h0 : 0 ≤ last) (h1 : 0 ≤ all) (hf : f = if x.2 = 2 ∨ x.2 = 3 then x.1 + d else x.1 - d) : (if last < (if all < (if f < 0 then 0 else f) then all else (if f < 0 then 0 else f)) then (if all < (if f < 0 then 0 else f) then all else (if f < 0 then 0 else f)) else last) = shF all d last x := by
  unfold shF; rw [← hf]; split <;> split <;> split <;> omega

end Go.Proofs.YtoppiafgeeodlaaGreat
