/- Texts of this seat, laid together: FlA TbA. -/
import Derived.Test.YtiigmolppcaplaaGreatBu06
import Derived.Test.YtiigmolppcaplaaGreatBu02
import Derived.Test.YtiigmolppcaplaaGreatBu07
/- The walks of bothFlaws, pressFlaws and of the order of flaws. -/
namespace Go.Proofs.YtiigmolppcaplaaGreat
set_option linter.unusedVariables false
set_option linter.unusedSimpArgs false
open Go.RowKit

theorem isNaN_any (x : Int) (w : World) : Calls Tryz.prog 79 #[.int .i64 x] w fun e w' => e = .returned (.bool false) ∧ w = w' := by
  have g : (x != x) = false := by simp
  go_enter Tryz.func79, Tryz.ntmps79
  go_wp2_with fail
  go_ret
  exact ⟨rfl, rfl⟩

theorem cmpInt_any (x y : Int) (w : World) : Calls Tryz.prog 87 #[.int .i64 x, .int .i64 y] w fun e w' => e = .returned (.int .i64 (cmpI x y)) ∧ w = w' := by
  go_enter Tryz.func87, Tryz.ntmps87
  go_wp2_with fail
  refine (isNaN_any _ _).mono ?_
  rintro e w1 ⟨rfl, rfl⟩
  go_wp2_with fail
  refine (isNaN_any _ _).mono ?_
  rintro e w1 ⟨rfl, rfl⟩
  rcases Int.lt_trichotomy x y with h | h | h
  · have HC : Hid (cmpI x y = -1) := Lib.hid (by simp [cmpI, h])
    go_wp2_with fail
    go_ret
    exact ⟨ret_int' HC.out.symm, rfl⟩
  · have HC : Hid (cmpI x y = 0) := Lib.hid (by simp [cmpI, h])
    subst h
    go_wp2_with fail
    go_ret
    exact ⟨ret_int' HC.out.symm, rfl⟩
  · have HC : Hid (cmpI x y = 1) := Lib.hid (by simp [cmpI, h]; omega)
    have d : decide (x < y) = false := by simp; omega
    go_wp2_with fail
    go_ret
    exact ⟨ret_int' HC.out.symm, rfl⟩
end Go.Proofs.YtiigmolppcaplaaGreat
/- The walks of cmp.Less and slices.IsSorted at numbers. -/
namespace Go.Proofs.YtiigmolppcaplaaGreat
set_option linter.unusedVariables false
set_option linter.unusedSimpArgs false
open Go.RowKit

theorem lessI_any (x y : Int) (w : World) : Calls Tryz.prog 49 #[.int .i64 x, .int .i64 y] w fun e w' => e = .returned (.bool (decide (x < y))) ∧ w' = w := by
  go_enter Tryz.func49, Tryz.ntmps49
  go_wp2_with fail
  refine (isNaN_any x _).mono ?_
  rintro e w' ⟨rfl, rfl⟩
  go_wp2_with fail
  go_ret
  exact ⟨rfl, rfl⟩
theorem lessI_no (x y : Int) (w : World) (h : decide (x < y) = false) : Calls Tryz.prog 49 #[.int .i64 x, .int .i64 y] w fun e w' => e = .returned (.bool false) ∧ w' = w := by
  have := lessI_any x y w
  rw [h] at this
  exact this
set_option maxHeartbeats 1000000 in
theorem isSorted_any (A : Option Addr) (c lo : Nat) (S : List Int) (w : World) (hr : Row w lo 1 A S.length (ints S)) (hl : S.length ≤ 1000000000) (hs : S.Pairwise (· ≤ ·)) :
    Calls Tryz.prog 18 #[.slice A S.length c] w fun e w' => e = .returned (.bool true) ∧ Below w.heap.size w w' := by
  have HS := Lib.hid hs
  clear hs
  have hw0 : IntKind.i64.wrap ((S.length : Int) - 1) = (S.length : Int) - 1 := IntWalk.i64_in _ ⟨by omega, by omega⟩
  go_enter Tryz.func18, Tryz.ntmps18
  go_wp2_with fail
  go_loopw [3] (fun i wr => ∃ k : Int, i = .int .i64 k ∧ (k = -1 ∨ ∃ j : Nat, k = j ∧ j < S.length) ∧ Below w.heap.size w wr) (fun i _ => (intOf i).toNat)
  case atStart =>
    refine ⟨(S.length : Int) - 1, rfl, ?_, Below.refl _ _⟩
    by_cases h : S.length = 0
    · left; omega
    · right; exact ⟨S.length - 1, by omega, by omega⟩
  case round =>
    obtain ⟨k, rfl, hk | ⟨k, rfl, hk⟩, hb⟩ := hrel
    · subst hk
      go_wp2_with fail
      go_ret
      exact ⟨rfl, hb⟩
    by_cases h0 : k = 0
    · subst h0
      go_wp2_with fail
      go_ret
      exact ⟨rfl, hb⟩
    · obtain ⟨j, hj⟩ : ∃ j : Nat, k = j + 1 := ⟨k - 1, by omega⟩
      have hr := hr.below hb
      obtain ⟨b, off, rfl, _, hbz, c1⟩ := hr.int_at hk
      have hjl : j < S.length := by omega
      have c0 : wr.cell? ⟨b, off + j, none⟩ = some (.int .i64 S[j]) := by
        obtain ⟨b', off', e, _, _, c0⟩ := hr.int_at hjl
        injection e with e
        injection e with e1 e2
        subst e1 e2
        exact c0
      have hle : S[j] ≤ S[k] := List.pairwise_iff_getElem.1 HS.out j k hjl hk (by omega)
      generalize S[k] = y at *
      generalize S[j] = x at *
      have hd : decide (y < x) = false := by simp; omega
      have q1 : decide (0 < k) = true := by simp; omega
      have q2 : IntKind.i64.wrap ((k : Int) - 1) = (j : Int) := by rw [IntWalk.i64_in _ ⟨by omega, by omega⟩]; omega
      have HJ := Lib.hid hj
      clear hw0 hj hle h0
      go_wp2_with fail
      go_quiet ((go_at_call 49; exact Calls.quiet_of_same (lessI_no _ _ _ hd)))
      go_wp2_with fail
      go_roundw
      case rel => exact ⟨j, rfl, .inr ⟨j, rfl, hjl⟩, below_drewN' hb _⟩
      case measure => have := HJ.out; simp [intOf]; omega
end Go.Proofs.YtiigmolppcaplaaGreat
