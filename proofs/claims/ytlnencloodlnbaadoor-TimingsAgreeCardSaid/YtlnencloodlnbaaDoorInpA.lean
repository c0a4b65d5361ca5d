/- The walks of what checks an input: bounds, frames, CheckInput and its reference. -/
import Derived.Test.YtlnencloodlnbaaDoorInp
import Derived.Test.YtlnencloodlnbaaDoorPieces
namespace Go.Proofs.YtlnencloodlnbaaDoor
open Go.RowKit

set_option maxHeartbeats 400000 in
theorem out_any (n lo hi : Int) (w : World) :
    Calls Tryd.prog 20 #[.int .i64 n, .int .i64 lo, .int .i64 hi] w fun e w' => e = .returned (.bool (decide (n < lo) || decide (hi < n))) ∧ w = w' := by
  by_cases h : n < lo
  · go_enter Tryd.func20, Tryd.ntmps20
    go_wp2
    go_ret
    exact ⟨by simp [h], rfl⟩
  · have h' : decide (n < lo) = false := by simpa using h
    go_enter Tryd.func20, Tryd.ntmps20
    go_wp2
    go_ret
    exact ⟨by simp, rfl⟩

set_option maxHeartbeats 400000 in
theorem in_any (n lo hi : Int) (w : World) :
    Calls Tryd.prog 34 #[.int .i64 n, .int .i64 lo, .int .i64 hi] w fun e w' => e = .returned (.bool (decide (lo ≤ n) && decide (n ≤ hi))) ∧ w = w' := by
  by_cases h : lo ≤ n
  · go_enter Tryd.func34, Tryd.ntmps34
    go_wp2
    go_ret
    exact ⟨by simp [h], rfl⟩
  · have h' : decide (lo ≤ n) = false := by simpa using h
    go_enter Tryd.func34, Tryd.ntmps34
    go_wp2
    go_ret
    exact ⟨by simp, rfl⟩

/-- The fault of a number out of its span. -/
def spanFault (n lo hi : Int) : Int := if lo ≤ n ∧ n ≤ hi then 0 else 1

set_option maxHeartbeats 400000 in
theorem span_any (n lo hi : Int) (w : World) :
    Calls Tryd.prog 22 #[.int .i64 n, .int .i64 lo, .int .i64 hi] w fun e w' => e = .returned (.int .i64 (spanFault n lo hi)) ∧ w = w' := by
  go_enter Tryd.func22, Tryd.ntmps22
  go_wp2_with fail
  refine (in_any _ _ _ _).mono ?_
  rintro e w' ⟨rfl, rfl⟩
  by_cases h : lo ≤ n ∧ n ≤ hi
  · have h' : (decide (lo ≤ n) && decide (n ≤ hi)) = true := by simpa using h
    rw [h']
    go_wp2_with fail
    go_ret
    exact ⟨ret_int' (by simp [spanFault, h]), rfl⟩
  · have h' : (decide (lo ≤ n) && decide (n ≤ hi)) = false := by simpa using h
    rw [h']
    go_wp2_with fail
    go_ret
    exact ⟨ret_int' (by simp only [spanFault, h, if_false]), rfl⟩

end Go.Proofs.YtlnencloodlnbaaDoor
