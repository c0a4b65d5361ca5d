/- Texts of this seat, laid together: RtA. -/
import Derived.LoopN
import Derived.WalkLawsBesides
import Derived.Deep.QuietTactic
import Derived.BigQuiet
import Derived.Test.YtkchacgkjdeiaaaGreatDoorBf03
import Derived.Test.YtkchacgkjdeiaaaGreatDoorBf04
import Derived.Test.YtkchacgkjdeiaaaGreatDoorBf06
import Derived.Test.YtkchacgkjdeiaaaGreatDoorBf28
/- The walks of what checks a map, at the one map that the laws use as their last test: rooms a and b, a door d from a to b of time 7. -/
namespace Go.Proofs.YtkchacgkjdeiaaaGreatDoor
set_option linter.unusedVariables false
set_option linter.unusedSimpArgs false
open Go.RowKit

structure FM (w : World) (R D : Nat) : Prop where
  rooms : Blk w R 134 #[.string ⟨#[97]⟩, .slice none 0 0, .string ⟨#[98]⟩, .slice none 0 0]
  doors : Blk w D 137 #[.string ⟨#[100]⟩, .string ⟨#[97]⟩, .string ⟨#[98]⟩, .int .i64 7, .slice none 0 0, .slice none 0 0, .string ⟨#[]⟩]
theorem FM.below {w w' : World} {R D : Nat} (h : FM w R D) (hb : Below w.heap.size w w') : FM w' R D:=⟨h.rooms.below hb,h.doors.below hb⟩
theorem FM.alloc {w : World} {R D : Nat} (h : FM w R D) (o : Obj) : FM (w.alloc o) R D:=⟨h.rooms.alloc o,h.doors.alloc o⟩
theorem FM.drew {w : World} {R D : Nat} (h : FM w R D) : FM w.drew R D:=⟨h.rooms,h.doors⟩
theorem FM.drewN {w : World} {R D : Nat} (h : FM w R D) (q : Nat) : FM (w.drewN q) R D:=⟨h.rooms,h.doors⟩
theorem FM.room {w : World} {R D : Nat} (h : FM w R D) : w.cell? ⟨R,0,none⟩ = some (.string ⟨#[97]⟩) ∧ w.cell? ⟨R,1,none⟩ = some (.slice none 0 0) ∧ w.cell? ⟨R,2,none⟩ = some (.string ⟨#[98]⟩) ∧ w.cell? ⟨R,3,none⟩ = some (.slice none 0 0) :=
 ⟨by simpa using h.rooms.cell 0,by simpa using h.rooms.cell 1,by simpa using h.rooms.cell 2,by simpa using h.rooms.cell 3⟩
theorem FM.door {w : World} {R D : Nat} (h : FM w R D) : w.cell? ⟨D,0,none⟩ = some (.string ⟨#[100]⟩) ∧ w.cell? ⟨D,1,none⟩ = some (.string ⟨#[97]⟩) ∧ w.cell? ⟨D,2,none⟩ = some (.string ⟨#[98]⟩) ∧ w.cell? ⟨D,3,none⟩ = some (.int .i64 7) ∧ w.cell? ⟨D,4,none⟩ = some (.slice none 0 0) ∧ w.cell? ⟨D,5,none⟩ = some (.slice none 0 0) ∧ w.cell? ⟨D,6,none⟩ = some (.string ⟨#[]⟩) :=
 ⟨by simpa using h.doors.cell 0,by simpa using h.doors.cell 1,by simpa using h.doors.cell 2,by simpa using h.doors.cell 3,by simpa using h.doors.cell 4,by simpa using h.doors.cell 5,by simpa using h.doors.cell 6⟩
def MapB (w : World) (M R D : Nat) : Prop:=Blk w M 140 #[.slice (some ⟨R,0,none⟩) 2 2,.slice (some ⟨D,0,none⟩) 1 1,.string ⟨#[97]⟩,.string ⟨#[98]⟩]
theorem MapB.cells {w : World} {M R D : Nat} (h : MapB w M R D) : w.cell? ⟨M,0,none⟩ = some (.slice (some ⟨R,0,none⟩) 2 2) ∧ w.cell? ⟨M,1,none⟩ = some (.slice (some ⟨D,0,none⟩) 1 1) ∧ w.cell? ⟨M,2,none⟩ = some (.string ⟨#[97]⟩) ∧ w.cell? ⟨M,3,none⟩ = some (.string ⟨#[98]⟩) :=
 ⟨by simpa using Blk.cell h 0,by simpa using Blk.cell h 1,by simpa using Blk.cell h 2,by simpa using Blk.cell h 3⟩
theorem MapB.below {w w' : World} {M R D : Nat} (h : MapB w M R D) (hb : Below w.heap.size w w') : MapB w' M R D:=Blk.below h hb
theorem MapB.alloc {w : World} {M R D : Nat} (h : MapB w M R D) (o : Obj) : MapB (w.alloc o) M R D:=Blk.alloc h o
theorem MapB.lt {w : World} {M R D : Nat} (h : MapB w M R D) : M < w.heap.size:=Blk.lt h

end Go.Proofs.YtkchacgkjdeiaaaGreatDoor
