/- Texts of this seat, laid together: FmA. -/
import Derived.IntWalk
import Derived.Test.YtiigmolppcaplaaGreatBu12
import Derived.Test.YtiigmolppcaplaaGreatBu01
/- The walk of before: one fraction is below another one. -/
namespace Go.Proofs.YtiigmolppcaplaaGreat
set_option linter.unusedVariables false
set_option linter.unusedSimpArgs false
open Go.RowKit

theorem wide_lt (x y : Nat) (h : x < y) : x / 18446744073709551616 < y / 18446744073709551616 ∨ x / 18446744073709551616 = y / 18446744073709551616 ∧ x % 18446744073709551616 < y % 18446744073709551616 := by omega
set_option maxHeartbeats 1000000 in
theorem before_yes (a b c d : Nat) (ha : a ≤ 9223372036854775807) (hb : b ≤ 9223372036854775807) (hc : c ≤ 9223372036854775807) (hd : d ≤ 9223372036854775807) (h : a * d < c * b) (w : World) :
    Calls Tryz.prog 12 #[.agg #[.int .i64 a, .int .i64 b], .agg #[.int .i64 c, .int .i64 d]] w fun e w' => e = .returned (.bool true) ∧ Below w.heap.size w w' := by
  have ua : IntKind.u64.wrap (a : Int) = (a : Int) := IntWalk.u64_in _ ⟨by omega, by omega⟩
  have ub : IntKind.u64.wrap (b : Int) = (b : Int) := IntWalk.u64_in _ ⟨by omega, by omega⟩
  have uc : IntKind.u64.wrap (c : Int) = (c : Int) := IntWalk.u64_in _ ⟨by omega, by omega⟩
  have ud : IntKind.u64.wrap (d : Int) = (d : Int) := IntWalk.u64_in _ ⟨by omega, by omega⟩
  have hl := wide_lt _ _ h
  have HL : Hid (((a * d / 18446744073709551616 : Nat) : Int) < ((c * b / 18446744073709551616 : Nat) : Int) ∨ ((a * d / 18446744073709551616 : Nat) : Int) = ((c * b / 18446744073709551616 : Nat) : Int) ∧ ((a * d % 18446744073709551616 : Nat) : Int) < ((c * b % 18446744073709551616 : Nat) : Int)) := Lib.hid (by omega)
  clear hl h
  go_enter Tryz.func12, Tryz.ntmps12
  go_wp2_with fail
  refine (Tryz.bits_Mul64 a d (by omega) (by omega) _).mono ?_
  rintro e w1 ⟨rfl, rfl⟩
  generalize ((a * d / 18446744073709551616 : Nat) : Int) = h1 at *
  generalize ((a * d % 18446744073709551616 : Nat) : Int) = l1 at *
  go_wp2_with fail
  refine (Tryz.bits_Mul64 c b (by omega) (by omega) _).mono ?_
  rintro e w1 ⟨rfl, rfl⟩
  generalize ((c * b / 18446744073709551616 : Nat) : Int) = h2 at *
  generalize ((c * b % 18446744073709551616 : Nat) : Int) = l2 at *
  rcases HL.out with hl | ⟨hl, hl'⟩
  · have q : decide (h1 < h2) = true := by simpa using hl
    clear hl
    go_wp2_with fail
    go_ret
    exact ⟨rfl, (by repeat (first | exact Below.refl _ _ | refine Below.alloc ?_ (by first | omega | (simp; omega) | simp) _ | refine below_drewN' ?_ _ | refine Below.drew ?_))⟩
  · have q : decide (h1 < h2) = false := by simp; omega
    have q' : (h1 == h2) = true := by simpa using hl
    have q2 : decide (l1 < l2) = true := by simpa using hl'
    clear hl hl'
    go_wp2_with fail
    go_ret
    exact ⟨rfl, (by repeat (first | exact Below.refl _ _ | refine Below.alloc ?_ (by first | omega | (simp; omega) | simp) _ | refine below_drewN' ?_ _ | refine Below.drew ?_))⟩
end Go.Proofs.YtiigmolppcaplaaGreat
