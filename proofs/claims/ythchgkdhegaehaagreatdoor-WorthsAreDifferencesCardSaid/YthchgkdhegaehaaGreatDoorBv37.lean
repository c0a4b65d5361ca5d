/- Texts of this seat, laid together: WkR WkO MpD. -/
import Derived.Deep.CutBlock
import Derived.Test.YthchgkdhegaehaaGreatDoorBv28
import Derived.Test.YthchgkdhegaehaaGreatDoorBv27
import Derived.Test.YthchgkdhegaehaaGreatDoorBv36
import Derived.Test.YthchgkdhegaehaaGreatDoorBv07
import Derived.Test.YthchgkdhegaehaaGreatDoorBv35
/- The walks of the reference's doorFault, through, firstPoint and SamePoint. -/
namespace Go.Proofs.YthchgkdhegaehaaGreatDoor
set_option linter.unusedVariables false
set_option linter.unusedSimpArgs false
open Go.RowKit Go.Sort Go.Shelf

end Go.Proofs.YthchgkdhegaehaaGreatDoor
/- The walk of the reference's WalkedOf. -/
namespace Go.Proofs.YthchgkdhegaehaaGreatDoor
set_option linter.unusedVariables false
set_option linter.unusedSimpArgs false
open Go.RowKit

theorem ThOk.len {T th : List (List UInt8)} (hT : T.Pairwise (· < ·)) (h : ThOk T th) : th.length ≤ T.length:=by
 rw [← list_bits hT h]; exact List.length_filter_le _ _
end Go.Proofs.YthchgkdhegaehaaGreatDoor
/- The walks of the stream's TrickList and DoorList. -/
namespace Go.Proofs.YthchgkdhegaehaaGreatDoor
set_option linter.unusedVariables false
set_option linter.unusedSimpArgs false
open Go.RowKit Go.Sort

section
variable {w w' : World} {lo g : Nat} {A : Option Addr} {rs : List RoomE} {D : Option Addr} {ds : List DoorE}
theorem MapW.grown (h : MapW w lo A rs D ds) (hb : w.grownBy w' (some g)) (hg : g < lo) : MapW w' lo A rs D ds :=
 ⟨h.rooms.grown hb hg,h.doors.grown hb hg,fun r hr => ⟨(h.gives r hr).1.grown hb hg,(h.gives r hr).2⟩,fun d hd => ⟨(h.needs d hd).1.grown hb hg,(h.needs d hd).2⟩,fun d hd => ⟨(h.takes d hd).1.grown hb hg,(h.takes d hd).2⟩,h.s⟩
theorem own_keepB {base size n : Nat} {e : TypeId} {v : Value} {xs : List Value} {row : Option Nat} (h : w.ownsRow base e size v n xs) (hg : w.grownBy w' row) (hr : ∀ k j,row = some k → v.ownBlock = some j → j ≠ k) : w'.ownsRow base e size v n xs :=
 h.kept hg (by
  cases hv : v.ownBlock with
  | none => exact .inl rfl
  | some j => exact .inr fun e1 => hr j j e1.symm hv rfl)
end
end Go.Proofs.YthchgkdhegaehaaGreatDoor
