/- Texts of this seat, laid together: FbChainsBreak. -/
import Derived.Test.YtdidcjhgdofgcaaGreatDoorRows
import Derived.Test.YtdidcjhgdofgcaaGreatDoorCards
import Derived.Test.YtdidcjhgdofgcaaGreatDoorTie
import Derived.ProofKit
import Derived.OpenShut
import Derived.ShutString
import Derived.ChangeOld
import Derived.SevenTiedAt
import Derived.LaidLaws
import Derived.LaidHandle
import Derived.JoinedOf
import Derived.Lib.LaidIn
import Derived.Lib.LaidTab
import Derived.Lay
import Derived.MakeChecks
import Derived.Lib.TrailingZeros
import Derived.Test.YtdidcjhgdofgcaaGreatDoorBc65
import Derived.Test.YtdidcjhgdofgcaaGreatDoorBc07
import Derived.Test.YtdidcjhgdofgcaaGreatDoorBc38
import Derived.Test.YtdidcjhgdofgcaaGreatDoorBc08
/- The tied card of the law ChainsBreak: for every list of numbers the call returns true, and the list reads afterwards as it read before; the listed variables of the library are as the program's text lays them. No other conditions. -/
namespace Go.Proofs.YtdidcjhgdofgcaaGreatDoor.chainsBreak
set_option linter.unusedVariables false
set_option linter.unusedSimpArgs false
open Go.ChangeShapes Go.WideShapes Go.ChangeAt Go.RowKit
open Go.ChangeMaps (open_string shut_string)

theorem ai {a b : Bool} (x : a = true) (y : b = true) : (a && b) = true := by rw [x, y]; rfl
set_option maxHeartbeats 0 in
theorem closed : joinedFacts Tryz.pinned.checked.prog 5 Tryz.f5 Rows.chainsBreakSpec Rows.chainsBreakRow = true := by
  unfold joinedFacts
  refine ai (ai (ai (ai (ai (ai (ai (ai (ai (ai (ai (ai (ai (ai (ai (ai (ai (ai (ai (ai (ai (ai (ai (ai (ai (ai (ai (ai (ai (ai (ai ?_ ?_) ?_) ?_) ?_) ?_) ?_) ?_) ?_) ?_) ?_) ?_) ?_) ?_) ?_) ?_) ?_) ?_) ?_) ?_) ?_) ?_) ?_) ?_) ?_) ?_) ?_) ?_) ?_) ?_) ?_) ?_
  all_goals (decide +kernel)

theorem over : Rows.chainsBreakRow.holds Tryz.pinned (OpenSpec.ofChange Rows.chainsBreakSpec) :=
  OpenClaim.holds_of_wide 5 Tryz.f5 rfl rfl rfl rfl rfl rfl rfl ⟨rfl, rfl, rfl, rfl, rfl⟩ rfl rfl rfl rfl rfl (by kernel_rfl) Tryz.func5 closed
    (of_decide_eq_true (by kernel_rfl)) (by unfold Func.isWrapper; first | (rw [if_pos (by decide +kernel)]; kernel_rfl) | (rw [if_neg (by decide +kernel)]; exact ⟨rfl, rfl⟩))
    (fun os started H enc _ => lifted os started H enc)

end Go.Proofs.YtdidcjhgdofgcaaGreatDoor.chainsBreak
