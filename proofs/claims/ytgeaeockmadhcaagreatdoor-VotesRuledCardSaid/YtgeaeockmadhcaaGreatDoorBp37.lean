/- Texts of this seat, laid together: MqG. -/
import Derived.Test.YtgeaeockmadhcaaGreatDoorBp18
import Derived.Test.YtgeaeockmadhcaaGreatDoorBp04
/- The walk of doorsFault. -/
namespace Go.Proofs.YtgeaeockmadhcaaGreatDoor
set_option linter.unusedVariables false
set_option linter.unusedSimpArgs false
open Go.RowKit

structure DfC (w W : World) (kb lo : Nat) (d : DoorE) : Prop where
  bl : Blk W kb 123 #[.string ⟨d.key.toArray⟩, .string ⟨d.src.toArray⟩, .string ⟨d.dst.toArray⟩, .int .i64 d.time, .slice d.N d.needs.length d.nc, .slice d.T d.takes.length d.tc, .string ⟨d.trick.toArray⟩]
  n : Row W lo 1 d.N d.needs.length (strs d.needs)
  t : Row W lo 1 d.T d.takes.length (strs d.takes)
  b : Below w.heap.size w W
theorem DfC.below {w W W' : World} {kb lo : Nat} {d : DoorE} (h : DfC w W kb lo d) (hb : Below W.heap.size W W') : DfC w W' kb lo d:=⟨h.bl.below hb,h.n.below hb,h.t.below hb,below_up h.b hb⟩
theorem DfC.alloc {w W : World} {kb lo : Nat} {d : DoorE} (h : DfC w W kb lo d) (o : Obj) : DfC w (W.alloc o) kb lo d:=h.below ((Below.refl _ _).alloc (Nat.le_refl _) o)
theorem DfC.drew {w W : World} {kb lo : Nat} {d : DoorE} (h : DfC w W kb lo d) : DfC w W.drew kb lo d:=h.below (below_drewN' (Below.refl _ _) 1)
theorem DfC.cells {w W : World} {kb lo : Nat} {d : DoorE} (h : DfC w W kb lo d) : W.cell? ⟨kb,0,none⟩ = some (.string ⟨d.key.toArray⟩) ∧ W.cell? ⟨kb,1,none⟩ = some (.string ⟨d.src.toArray⟩) ∧ W.cell? ⟨kb,2,none⟩ = some (.string ⟨d.dst.toArray⟩) ∧ W.cell? ⟨kb,3,none⟩ = some (.int .i64 d.time) ∧ W.cell? ⟨kb,4,none⟩ = some (.slice d.N d.needs.length d.nc) ∧ W.cell? ⟨kb,5,none⟩ = some (.slice d.T d.takes.length d.tc) ∧ W.cell? ⟨kb,6,none⟩ = some (.string ⟨d.trick.toArray⟩) :=
 ⟨h.bl.cell 0,h.bl.cell 1,h.bl.cell 2,h.bl.cell 3,h.bl.cell 4,h.bl.cell 5,h.bl.cell 6⟩
end Go.Proofs.YtgeaeockmadhcaaGreatDoor
