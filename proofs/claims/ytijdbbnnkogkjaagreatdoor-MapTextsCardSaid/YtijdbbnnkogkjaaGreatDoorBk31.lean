/- Texts of this seat, laid together: WkP WkA. -/
import Derived.Laws.BitsLemmas
import Derived.Test.YtijdbbnnkogkjaaGreatDoorBk27
import Derived.Test.YtijdbbnnkogkjaaGreatDoorBk29
/- Walks through a map, plain: sets of things as bits, and what a walk comes to. -/
namespace Go.Proofs.YtijdbbnnkogkjaaGreatDoor
set_option linter.unusedVariables false
set_option linter.unusedSimpArgs false
open Go.RowKit

def bitsN : Nat → (Nat → Bool) → Nat
 | 0,_ => 0
 | n + 1,p => bitsN n p + if p n then 2 ^ n else 0
def bitsT (T l : List (List UInt8)) : Nat:=bitsN T.length (fun i => decide (T.getD i [] ∈ l))
structure WkR where
  err : Int
  room : List UInt8
  th : List (List UInt8)
  time : Int
structure Right (rs : List RoomE) (ds : List DoorE) (st gl : List UInt8) : Prop where
  rup : UpS (rs.map RoomE.key)
  dup : UpS (ds.map DoorE.key)
  st : st ∈ rs.map RoomE.key
  gl : gl ∈ rs.map RoomE.key
  src : ∀ d ∈ ds, d.src ∈ rs.map RoomE.key
  dst : ∀ d ∈ ds, d.dst ∈ rs.map RoomE.key
  time : ∀ d ∈ ds, 1 ≤ d.time ∧ d.time ≤ 864000000
  few : (onceT (allT rs ds)).length ≤ 10
  rl : rs.length ≤ 100
  dl : ds.length ≤ 500
  dkey : ∀ d ∈ ds, d.key ≠ []
structure ThOk (T th : List (List UInt8)) : Prop where
  up : th.Pairwise (· < ·)
  sub : ∀ x ∈ th, x ∈ T
end Go.Proofs.YtijdbbnnkogkjaaGreatDoor
/- The world of a map in memory, and what is read of it: bits. -/
namespace Go.Proofs.YtijdbbnnkogkjaaGreatDoor
set_option linter.unusedVariables false
set_option linter.unusedSimpArgs false
open Go.RowKit

end Go.Proofs.YtijdbbnnkogkjaaGreatDoor
