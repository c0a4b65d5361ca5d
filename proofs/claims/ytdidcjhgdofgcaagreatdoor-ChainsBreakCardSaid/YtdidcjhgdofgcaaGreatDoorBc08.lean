/- Texts of this seat, laid together: Tz. -/
import Derived.Handy
import Derived.Test.YtdidcjhgdofgcaaGreatDoorBc07
/- What strconv asks of base 16: how many zeros end it, and that it is a power of two. -/
namespace Go.Proofs.YtdidcjhgdofgcaaGreatDoor
set_option linter.unusedVariables false
set_option linter.unusedSimpArgs false
open Go.RowKit

/-- Where the table of math/bits tells of 16. -/
def Tz (w : World) : Prop := w.cell? ⟨7, 15, none⟩ = some (.int .u8 4)
theorem Tz.below {w w' : World} (h : Tz w) (hb : Below w.heap.size w w') : Tz w' :=
  (hb.cell (p := ⟨7, 15, none⟩) (World.block_lt_of_cell? w ⟨7, 15, none⟩ h)).trans h
theorem tz64_any (w : World) (h : Tz w) : Calls Tryz.prog 221 #[.int .u64 16] w fun e w' => e = .returned (.int .i64 4) ∧ w' = w := by
  have hz : w.cell? ⟨7, 15, none⟩ = some (.int .u8 4) := h
  go_enter Tryz.func221, Tryz.ntmps221
  have key : IntKind.u64.wrap (bits BinOp.and IntKind.u64 16 (IntKind.u64.wrap (-16)) * 285870213051353865) / 288230376151711744 = 15 := by decide +kernel
  go_wp2_with fail
  go_ret
  exact ⟨rfl, rfl⟩
theorem tz16_any (w : World) (h : Tz w) : Calls Tryz.prog 189 #[.int .u64 16] w fun e w' => e = .returned (.int .i64 4) ∧ w' = w := by
  go_enter Tryz.func189, Tryz.ntmps189
  go_wp2_with fail
  refine (tz64_any _ h).mono ?_
  rintro e w' ⟨rfl, rfl⟩
  go_wp2_with fail
  go_ret
  exact ⟨rfl, rfl⟩
theorem pow2_any (w : World) : Calls Tryz.prog 188 #[.int .i64 16] w fun e w' => e = .returned (.bool true) ∧ w' = w := by
  have key : bits BinOp.and IntKind.i64 16 15 = 0 := by decide +kernel
  go_enter Tryz.func188, Tryz.ntmps188
  go_wp2_with fail
  go_ret
  exact ⟨rfl, rfl⟩
end Go.Proofs.YtdidcjhgdofgcaaGreatDoor
