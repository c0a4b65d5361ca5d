/- Texts of this seat, laid together: Sum. -/
import Derived.Shelf.Strings.SlTrimAscii
import Derived.Test.YtlinbaojkmcbeaaGreatDoorBv02
import Derived.Test.YtlinbaojkmcbeaaGreatDoorBv05
/- The walks of IsSum and SumRight. -/
namespace Go.Proofs.YtlinbaojkmcbeaaGreatDoor
set_option linter.unusedVariables false
set_option linter.unusedSimpArgs false
open Go.RowKit Go.Sort

def hexs : List UInt8 := [48, 49, 50, 51, 52, 53, 54, 55, 56, 57, 97, 98, 99, 100, 101, 102]
def isSum (s : List UInt8) : Bool := decide (s.length = 16) && (Lib.trimS s hexs).isEmpty
theorem trimHex_any (s : List UInt8) (w : World) (hs : s.length ≤ 9223372036854775807) :
    Calls Tryz.prog 89 #[encStr s, .string ⟨#[48, 49, 50, 51, 52, 53, 54, 55, 56, 57, 97, 98, 99, 100, 101, 102]⟩] w fun e w' => e = .returned (encStr (Lib.trimS s hexs)) ∧ Below w.heap.size w w' := by
  refine (Any.strings_Trim_laid Tryz.lays160 (by kernel_rfl) ⟨s.toArray⟩ ⟨#[48, 49, 50, 51, 52, 53, 54, 55, 56, 57, 97, 98, 99, 100, 101, 102]⟩ w hs (by decide) (ascii_of_all (by decide))).mono ?_
  rintro e w' ⟨rfl, hb⟩
  exact ⟨rfl, hb⟩

end Go.Proofs.YtlinbaojkmcbeaaGreatDoor
