/- Texts of this seat, laid together: Sum. -/
import Derived.Shelf.Strings.SlTrimAscii
import Derived.Test.YtdidcjhgdofgcaaGreatDoorBc04
import Derived.Test.YtdidcjhgdofgcaaGreatDoorBc09
/- The walks of IsSum and SumRight. -/
namespace Go.Proofs.YtdidcjhgdofgcaaGreatDoor
set_option linter.unusedVariables false
set_option linter.unusedSimpArgs false
open Go.RowKit Go.Sort

def hexs : List UInt8 := [48, 49, 50, 51, 52, 53, 54, 55, 56, 57, 97, 98, 99, 100, 101, 102]
def isSum (s : List UInt8) : Bool := decide (s.length = 16) && (Lib.trimS s hexs).isEmpty
theorem trimHex_any (s : List UInt8) (w : World) (hs : s.length ≤ 9223372036854775807) :
    Calls Tryz.prog 73 #[encStr s, .string ⟨#[48, 49, 50, 51, 52, 53, 54, 55, 56, 57, 97, 98, 99, 100, 101, 102]⟩] w fun e w' => e = .returned (encStr (Lib.trimS s hexs)) ∧ Below w.heap.size w w' := by
  refine (Any.strings_Trim_laid Tryz.lays160 (by kernel_rfl) ⟨s.toArray⟩ ⟨#[48, 49, 50, 51, 52, 53, 54, 55, 56, 57, 97, 98, 99, 100, 101, 102]⟩ w hs (by decide) (ascii_of_all (by decide))).mono ?_
  rintro e w' ⟨rfl, hb⟩
  exact ⟨rfl, hb⟩

set_option maxHeartbeats 400000 in
theorem isSum_any (s : List UInt8) (w : World) (hs : s.length ≤ 9223372036854775807) :
    Calls Tryz.prog 74 #[encStr s] w fun e w' => e = .returned (.bool (isSum s)) ∧ Below w.heap.size w w' := by
  by_cases h : s.length = 16
  · have h' : ((s.length : Int) == 16) = true := by rw [beq_iff_eq]; omega
    have HI : Hid (isSum s = (Lib.trimS s hexs).isEmpty) := Lib.hid (by simp [isSum, h])
    clear h
    go_enter Tryz.func74, Tryz.ntmps74
    go_wp2_with fail
    refine (trimHex_any s _ hs).mono ?_
    rintro e w1 ⟨rfl, hb1⟩
    generalize Lib.trimS s hexs = t at *
    cases t with
    | nil =>
      go_wp2_with fail
      go_ret
      exact ⟨ret_bool' (by rw [HI.out]; rfl), hb1⟩
    | cons x t =>
      go_wp2_with fail
      go_ret
      exact ⟨ret_bool' (by rw [HI.out]; rfl), hb1⟩
  · have h' : ((s.length : Int) == 16) = false := by rw [beq_eq_false_iff_ne]; omega
    have HI : Hid (isSum s = false) := Lib.hid (by simp [isSum, h])
    clear h
    go_enter Tryz.func74, Tryz.ntmps74
    go_wp2_with fail
    go_ret
    exact ⟨ret_bool' HI.out.symm, Below.refl _ _⟩

set_option maxHeartbeats 400000 in
theorem sumRight_any (s : List UInt8) (w : World) (hs : s.length ≤ 9223372036854775807) :
    Calls Tryz.prog 38 #[encStr s] w fun e w' => e = .returned (.bool (isSum s)) ∧ Below w.heap.size w w' := by
  by_cases h : s.length = 16
  · have h' : ((s.length : Int) == 16) = true := by rw [beq_iff_eq]; omega
    have HI : Hid (isSum s = (Lib.trimS s hexs).isEmpty) := Lib.hid (by simp [isSum, h])
    clear h
    go_enter Tryz.func38, Tryz.ntmps38
    go_wp2_with fail
    refine (trimHex_any s _ hs).mono ?_
    rintro e w1 ⟨rfl, hb1⟩
    generalize Lib.trimS s hexs = t at *
    cases t with
    | nil =>
      go_wp2_with fail
      go_ret
      exact ⟨ret_bool' (by rw [HI.out]; rfl), hb1⟩
    | cons x t =>
      go_wp2_with fail
      go_ret
      exact ⟨ret_bool' (by rw [HI.out]; rfl), hb1⟩
  · have h' : ((s.length : Int) == 16) = false := by rw [beq_eq_false_iff_ne]; omega
    have HI : Hid (isSum s = false) := Lib.hid (by simp [isSum, h])
    clear h
    go_enter Tryz.func38, Tryz.ntmps38
    go_wp2_with fail
    go_ret
    exact ⟨ret_bool' HI.out.symm, Below.refl _ _⟩

end Go.Proofs.YtdidcjhgdofgcaaGreatDoor
