/- Texts of this seat, laid together: NpA WkR WkO MpD. -/
import Derived.Deep.CutBlock
import Derived.Test.YtkchacgkjdeiaaaGreatDoorBf47
import Derived.Test.YtkchacgkjdeiaaaGreatDoorBf41
import Derived.Test.YtkchacgkjdeiaaaGreatDoorBf43
import Derived.Test.YtkchacgkjdeiaaaGreatDoorBf28
/- Drawn maps are right, plain. -/
set_option linter.unusedVariables false
set_option linter.unusedSimpArgs false
namespace Go.Proofs.YtkchacgkjdeiaaaGreatDoor
open Go.RowKit Go.Sort

end Go.Proofs.YtkchacgkjdeiaaaGreatDoor
/- The walks of the reference's doorFault, through, firstPoint and SamePoint. -/
namespace Go.Proofs.YtkchacgkjdeiaaaGreatDoor
open Go.RowKit Go.Sort Go.Shelf

def PtC (w : World) (key : List UInt8) (l : List (List UInt8)) (e : Ending) (w' : World) : Prop:=∃ A c,e = .returned (.agg #[.string ⟨key.toArray⟩,.slice A l.length c]) ∧ Row w' w.heap.size 1 A l.length (strs l) ∧ l.length ≤ c ∧ Below w.heap.size w w'
theorem PtC.pt {w w' : World} {key : List UInt8} {l : List (List UInt8)} {e : Ending} (h : PtC w key l e w') : PtPost w key l e w' :=
 let ⟨A,c,h1,h2,_,h4⟩:=h; ⟨A,c,h1,h2,h4⟩
end Go.Proofs.YtkchacgkjdeiaaaGreatDoor
/- The walk of the reference's WalkedOf. -/
namespace Go.Proofs.YtkchacgkjdeiaaaGreatDoor
open Go.RowKit

theorem ThOk.len {T th : List (List UInt8)} (hT : T.Pairwise (· < ·)) (h : ThOk T th) : th.length ≤ T.length:=by
 rw [← list_bits hT h]; exact List.length_filter_le _ _
end Go.Proofs.YtkchacgkjdeiaaaGreatDoor
/- The walks of the stream's TrickList and DoorList. -/
namespace Go.Proofs.YtkchacgkjdeiaaaGreatDoor
open Go.RowKit Go.Sort

section
variable {w w' : World} {lo g : Nat} {A : Option Addr} {rs : List RoomE} {D : Option Addr} {ds : List DoorE}
theorem MapW.grown (h : MapW w lo A rs D ds) (hb : w.grownBy w' (some g)) (hg : g < lo) : MapW w' lo A rs D ds :=
 ⟨h.rooms.grown hb hg,h.doors.grown hb hg,fun r hr => ⟨(h.gives r hr).1.grown hb hg,(h.gives r hr).2⟩,fun d hd => ⟨(h.needs d hd).1.grown hb hg,(h.needs d hd).2⟩,fun d hd => ⟨(h.takes d hd).1.grown hb hg,(h.takes d hd).2⟩,h.s⟩
end
end Go.Proofs.YtkchacgkjdeiaaaGreatDoor
