/- The walks of Tidy, Frames, HeldAt and their references, and of slices' Index, Contains and Equal. -/
import Derived.Test.YtnlblgkoecnfmaaDoorInpB
import Derived.Test.YtnlblgkoecnfmaaDoorInpP
namespace Go.Proofs.YtnlblgkoecnfmaaDoor
set_option linter.unusedVariables false
set_option linter.unusedSimpArgs false
open Go.RowKit

theorem ret2_is {a b c d : Value} (h1 : a = c) (h2 : b = d) : Ending.returned (.tuple #[a, b]) = .returned (.tuple #[c, d]) := by rw [h1, h2]

set_option maxHeartbeats 400000 in
theorem index_any (A : Option Addr) (c lo : Nat) (zs : List Int) (x : Int) (w : World) (hr : Row w lo 1 A zs.length (ints zs)) (hl : zs.length ≤ 1000000000) :
    Calls Tryd.prog 83 #[.slice A zs.length c, .int .i64 x] w fun e w' => ∃ r : Int, e = .returned (.int .i64 r) ∧ (r < 0 ↔ x ∉ zs) ∧ w = w' := by
  go_enter Tryd.func83, Tryd.ntmps83
  go_wp2_with fail
  go_loop [8] (fun i => ∃ k : Nat, k ≤ zs.length ∧ i = .int .i64 k ∧ Hid (∀ y ∈ zs.take k, y ≠ x)) (fun i => zs.length - (intOf i).toNat)
  case atStart => exact ⟨0, Nat.zero_le _, rfl, Lib.hid (by simp)⟩
  case round =>
    obtain ⟨k, hk, rfl, hno⟩ := hrel
    by_cases hlt : k < zs.length
    · obtain ⟨b, off, rfl, _, hbs, c0⟩ := hr.int_at hlt
      by_cases he : x = zs[k]
      · have he' : (x == zs[k]) = true := by simpa using he
        have hm : Hid (x ∈ zs) := Lib.hid (by rw [he]; exact List.getElem_mem _)
        clear he
        go_wp2_with fail
        go_ret
        exact ⟨_, rfl, ⟨fun h => absurd h (by omega), fun h => absurd hm.out h⟩, rfl⟩
      · have he' : (x == zs[k]) = false := by simpa using he
        have hn : Hid (∀ y ∈ zs.take (k + 1), y ≠ x) := Lib.hid (by
          intro y hy
          rw [List.take_succ_eq_append_getElem hlt] at hy
          rcases List.mem_append.1 hy with h1 | h1
          · exact hno.out y h1
          · simp at h1; subst h1; exact fun h => he h.symm)
        clear he
        go_wp2_with fail
        go_round
        case rel => exact ⟨k + 1, by omega, by go_num, hn⟩
        case measure => simp [intOf]; omega
    · have hm : Hid (x ∉ zs) := Lib.hid (by
        have := hno.out
        rw [List.take_of_length_le (by omega)] at this
        exact fun h => this x h rfl)
      go_wp2_with fail
      go_ret
      exact ⟨-1, rfl, ⟨fun _ => hm.out, fun _ => by omega⟩, rfl⟩

set_option maxHeartbeats 400000 in
theorem contains_any (A : Option Addr) (c lo : Nat) (zs : List Int) (x : Int) (w : World) (hr : Row w lo 1 A zs.length (ints zs)) (hl : zs.length ≤ 1000000000) :
    Calls Tryd.prog 63 #[.slice A zs.length c, .int .i64 x] w fun e w' => e = .returned (.bool (decide (x ∈ zs))) ∧ w = w' := by
  go_enter Tryd.func63, Tryd.ntmps63
  go_wp2_with fail
  refine (index_any _ _ _ zs x _ hr hl).mono ?_
  rintro e w' ⟨r, rfl, hx, rfl⟩
  have HX := Lib.hid hx
  clear hx
  go_wp2_with fail
  go_ret
  refine ⟨ret_bool' ?_, rfl⟩
  have h := HX.out
  by_cases h1 : x ∈ zs
  · have : 0 ≤ r := by
      rcases Int.lt_or_le r 0 with h2 | h2
      · exact absurd h1 (h.1 h2)
      · exact h2
    simp [h1, this]
  · have := h.2 h1
    simp [h1]; omega

def btns : List Int := [1, 2, 4, 8, 16, 32]
def btnFault (b : Int) : Int := if b ∈ btns then 0 else 4

set_option maxHeartbeats 400000 in
theorem buttons_any (w : World) : Calls Tryd.prog 64 #[] w fun e w' => ∃ A c, e = .returned (.slice A btns.length c) ∧ Row w' w.heap.size 1 A btns.length (ints btns) ∧ Below w.heap.size w w' := by
  go_enter Tryd.func64, Tryd.ntmps64
  go_wp2_with fail
  go_ret
  exact ⟨_, _, rfl, row_new w _ _ _ _ _ (Nat.le_refl _) rfl, (Below.refl _ _).alloc (Nat.le_refl _) _⟩
end Go.Proofs.YtnlblgkoecnfmaaDoor
