/- The walks of slices.Equal over pieces, and of the law's own small test. -/
import Derived.Test.YtnlblgkoecnfmaaDoorInpE
namespace Go.Proofs.YtnlblgkoecnfmaaDoor
set_option linter.unusedVariables false
set_option linter.unusedSimpArgs false
open Go.RowKit

theorem pressR_ex : pressR [(1, 3), (0, 1), (1, 1)] 1 = 2 := by decide
theorem pressE_ex : pressE [(1, 3), (0, 1), (1, 1)] 1 = 0 := by decide

set_option maxHeartbeats 1000000 in
theorem pressed_any (w : World) : Calls Tryd.prog 14 #[] w fun e w' => e = .returned (.bool true) ∧ Below w.heap.size w w' := by
  have H1 := Lib.hid pressR_ex
  have H2 := Lib.hid pressE_ex
  go_enter Tryd.func14, Tryd.ntmps14
  go_wp2_with fail
  refine (presses_any _ _ w.heap.size [(1, 3), (0, 1), (1, 1)] 1 _ (by first | exact row_new' _ (by first | rfl | simp) (by first | omega | (simp; omega)) rfl | exact row_newN _ _ (by first | rfl | simp) (by first | omega | (simp; omega)) rfl | exact row_newD _ (by first | rfl | simp) (by first | omega | (simp; omega)) rfl) (by decide)).mono ?_
  rintro e w1 ⟨rfl, hb1⟩
  rw [H1.out, H2.out]
  go_wp2_with fail
  go_ret
  exact ⟨rfl, below_up ((Below.refl _ _).alloc (Nat.le_refl _) _) hb1⟩
end Go.Proofs.YtnlblgkoecnfmaaDoor
