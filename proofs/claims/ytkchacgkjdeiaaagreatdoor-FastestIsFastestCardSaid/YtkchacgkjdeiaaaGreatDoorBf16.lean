/- Texts of this seat, laid together: Fl FlA. -/
import Derived.Sort.LotA
import Derived.Test.YtkchacgkjdeiaaaGreatDoorBf04
import Derived.Test.YtkchacgkjdeiaaaGreatDoorBf00
/- Plain laws of what no hand can do: the flaws of an input in the order of frames, reasons and buttons. No program in sight. -/
set_option linter.unusedVariables false
set_option linter.unusedSimpArgs false
namespace Go.Proofs.YtkchacgkjdeiaaaGreatDoor
open Go.RowKit

def cmpI (a b : Int) : Int:=if a < b then -1 else if b < a then 1 else 0
theorem cmpI_lt (a b : Int) : cmpI a b < 0 ↔ a < b:=by unfold cmpI; split <;> (try split) <;> omega
end Go.Proofs.YtkchacgkjdeiaaaGreatDoor
/- The walks of bothFlaws, pressFlaws and of the order of flaws. -/
namespace Go.Proofs.YtkchacgkjdeiaaaGreatDoor
open Go.RowKit

theorem isNaN_any (x : Int) (w : World) : Calls Tryz.prog 161 #[.int .i64 x] w fun e w' => e = .returned (.bool false) ∧ w = w':=by
 have g : (x != x) = false:=by simp
 go_enter Tryz.func161,Tryz.ntmps161
 go_wp2_with fail;go_ret;exact ⟨rfl,rfl⟩

theorem cmpInt_any (x y : Int) (w : World) : Calls Tryz.prog 127 #[.int .i64 x,.int .i64 y] w fun e w' => e = .returned (.int .i64 (cmpI x y)) ∧ w = w':=by
 go_enter Tryz.func127,Tryz.ntmps127
 go_wp2_with fail;refine (isNaN_any _ _).mono ?_;rintro e w1 ⟨rfl,rfl⟩;go_wp2_with fail;refine (isNaN_any _ _).mono ?_;rintro e w1 ⟨rfl,rfl⟩;rcases Int.lt_trichotomy x y with h | h | h
 ·have HC : Hid (cmpI x y = -1):=Lib.hid (by simp [cmpI,h])
  go_wp2_with fail;go_ret;exact ⟨ret_int' HC.out.symm,rfl⟩
 ·have HC : Hid (cmpI x y = 0):=Lib.hid (by simp [cmpI,h])
  subst h;go_wp2_with fail;go_ret;exact ⟨ret_int' HC.out.symm,rfl⟩
 ·have HC : Hid (cmpI x y = 1):=Lib.hid (by simp [cmpI,h]; omega)
  have d : decide (x < y) = false:=by simp; omega
  go_wp2_with fail;go_ret;exact ⟨ret_int' HC.out.symm,rfl⟩
end Go.Proofs.YtkchacgkjdeiaaaGreatDoor
