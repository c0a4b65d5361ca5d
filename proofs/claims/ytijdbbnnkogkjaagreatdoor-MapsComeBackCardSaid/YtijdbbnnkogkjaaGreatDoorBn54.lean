/- Texts of this seat, laid together: MqY. -/
import Derived.Test.YtijdbbnnkogkjaaGreatDoorBn29
/- The walk of the reference's MapFault. -/
namespace Go.Proofs.YtijdbbnnkogkjaaGreatDoor
set_option linter.unusedVariables false
set_option linter.unusedSimpArgs false
open Go.RowKit

section
variable {w W W' : World} {kb g lo ca cd : Nat} {A : Option Addr} {rs : List RoomE} {D : Option Addr} {ds : List DoorE} {st gl : List UInt8} {r : RoomE} {d : DoorE}
structure RoC (w W : World) (kb g lo : Nat) (A : Option Addr) (rs : List RoomE) (ca : Nat) (D : Option Addr) (ds : List DoorE) (cd : Nat) (st gl : List UInt8) (r : RoomE) : Prop where
  m : McC w W g lo A rs ca D ds cd st gl
  bl : Blk W kb 62 #[.string ⟨r.key.toArray⟩, .slice r.B r.gives.length r.c]
  gv : Row W lo 1 r.B r.gives.length (strs r.gives)
theorem RoC.below (h : RoC w W kb g lo A rs ca D ds cd st gl r) (hb : Below W.heap.size W W') : RoC w W' kb g lo A rs ca D ds cd st gl r:=⟨h.m.below hb,h.bl.below hb,h.gv.below hb⟩
theorem RoC.drewN (h : RoC w W kb g lo A rs ca D ds cd st gl r) (n : Nat) : RoC w (W.drewN n) kb g lo A rs ca D ds cd st gl r:=h.below (below_drewN' (Below.refl _ _) n)
theorem RoC.cells (h : RoC w W kb g lo A rs ca D ds cd st gl r) : W.cell? ⟨kb,0,none⟩ = some (.string ⟨r.key.toArray⟩) ∧ W.cell? ⟨kb,1,none⟩ = some (.slice r.B r.gives.length r.c):=⟨h.bl.cell 0,h.bl.cell 1⟩
structure DoC (w W : World) (kb g lo : Nat) (A : Option Addr) (rs : List RoomE) (ca : Nat) (D : Option Addr) (ds : List DoorE) (cd : Nat) (st gl : List UInt8) (d : DoorE) : Prop where
  m : McC w W g lo A rs ca D ds cd st gl
  bl : Blk W kb 66 #[.string ⟨d.key.toArray⟩, .string ⟨d.src.toArray⟩, .string ⟨d.dst.toArray⟩, .int .i64 d.time, .slice d.N d.needs.length d.nc, .slice d.T d.takes.length d.tc, .string ⟨d.trick.toArray⟩]
  n : Row W lo 1 d.N d.needs.length (strs d.needs)
  t : Row W lo 1 d.T d.takes.length (strs d.takes)
theorem DoC.below (h : DoC w W kb g lo A rs ca D ds cd st gl d) (hb : Below W.heap.size W W') : DoC w W' kb g lo A rs ca D ds cd st gl d:=⟨h.m.below hb,h.bl.below hb,h.n.below hb,h.t.below hb⟩
theorem DoC.drewN (h : DoC w W kb g lo A rs ca D ds cd st gl d) (n : Nat) : DoC w (W.drewN n) kb g lo A rs ca D ds cd st gl d:=h.below (below_drewN' (Below.refl _ _) n)
theorem DoC.drew (h : DoC w W kb g lo A rs ca D ds cd st gl d) : DoC w W.drew kb g lo A rs ca D ds cd st gl d:=h.below (below_drewN' (Below.refl _ _) 1)
theorem DoC.alloc (h : DoC w W kb g lo A rs ca D ds cd st gl d) (o : Obj) : DoC w (W.alloc o) kb g lo A rs ca D ds cd st gl d:=h.below ((Below.refl _ _).alloc (Nat.le_refl _) o)
theorem DoC.cells (h : DoC w W kb g lo A rs ca D ds cd st gl d) : W.cell? ⟨kb,0,none⟩ = some (.string ⟨d.key.toArray⟩) ∧ W.cell? ⟨kb,1,none⟩ = some (.string ⟨d.src.toArray⟩) ∧ W.cell? ⟨kb,2,none⟩ = some (.string ⟨d.dst.toArray⟩) ∧ W.cell? ⟨kb,3,none⟩ = some (.int .i64 d.time) ∧ W.cell? ⟨kb,4,none⟩ = some (.slice d.N d.needs.length d.nc) ∧ W.cell? ⟨kb,5,none⟩ = some (.slice d.T d.takes.length d.tc) ∧ W.cell? ⟨kb,6,none⟩ = some (.string ⟨d.trick.toArray⟩) :=
 ⟨h.bl.cell 0,h.bl.cell 1,h.bl.cell 2,h.bl.cell 3,h.bl.cell 4,h.bl.cell 5,h.bl.cell 6⟩
end
end Go.Proofs.YtijdbbnnkogkjaaGreatDoor
