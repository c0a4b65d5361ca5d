/- Texts of this seat, laid together: FlA. -/
import Derived.Test.YtggnccafmadacaaGreatDoorBu10
import Derived.Test.YtggnccafmadacaaGreatDoorBu08
import Derived.Test.YtggnccafmadacaaGreatDoorBu11
/- The walks of bothFlaws, pressFlaws and of the order of flaws. -/
namespace Go.Proofs.YtggnccafmadacaaGreatDoor
set_option linter.unusedVariables false
set_option linter.unusedSimpArgs false
open Go.RowKit

theorem isNaN_any (x : Int) (w : World) : Calls Tryz.prog 129 #[.int .i64 x] w fun e w' => e = .returned (.bool false) ∧ w = w' := by
  have g : (x != x) = false := by simp
  go_enter Tryz.func129, Tryz.ntmps129
  go_wp2_with fail
  go_ret
  exact ⟨rfl, rfl⟩

theorem cmpInt_any (x y : Int) (w : World) : Calls Tryz.prog 85 #[.int .i64 x, .int .i64 y] w fun e w' => e = .returned (.int .i64 (cmpI x y)) ∧ w = w' := by
  go_enter Tryz.func85, Tryz.ntmps85
  go_wp2_with fail
  refine (isNaN_any _ _).mono ?_
  rintro e w1 ⟨rfl, rfl⟩
  go_wp2_with fail
  refine (isNaN_any _ _).mono ?_
  rintro e w1 ⟨rfl, rfl⟩
  rcases Int.lt_trichotomy x y with h | h | h
  · have HC : Hid (cmpI x y = -1) := Lib.hid (by simp [cmpI, h])
    go_wp2_with fail
    go_ret
    exact ⟨ret_int' HC.out.symm, rfl⟩
  · have HC : Hid (cmpI x y = 0) := Lib.hid (by simp [cmpI, h])
    subst h
    go_wp2_with fail
    go_ret
    exact ⟨ret_int' HC.out.symm, rfl⟩
  · have HC : Hid (cmpI x y = 1) := Lib.hid (by simp [cmpI, h]; omega)
    have d : decide (x < y) = false := by simp; omega
    go_wp2_with fail
    go_ret
    exact ⟨ret_int' HC.out.symm, rfl⟩
end Go.Proofs.YtggnccafmadacaaGreatDoor
