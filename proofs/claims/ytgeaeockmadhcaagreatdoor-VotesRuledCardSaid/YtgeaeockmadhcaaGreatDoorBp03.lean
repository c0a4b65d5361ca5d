/- Texts of this seat, laid together: MqA. -/
import Derived.Lib.SlicesCompact
import Derived.Test.YtgeaeockmadhcaaGreatDoorBp00
import Derived.Test.YtgeaeockmadhcaaGreatDoorBp02
/- Maps of rooms and doors, plain: what is wrong with them. -/
namespace Go.Proofs.YtgeaeockmadhcaaGreatDoor
set_option linter.unusedVariables false
set_option linter.unusedSimpArgs false
open Go.RowKit

def scanF (f : Nat → Int) (n : Nat) : Int:=firstE ((List.range n).map f)
theorem scanF_hit {f : Nat → Int} {n k : Nat} (hk : k < n) (h0 : ∀ j,j < k → f j = 0) (h : f k ≠ 0) : scanF f n = f k:=by
 unfold scanF
 rw [firstE_hit _ k (by simpa using hk) (fun y hy => ?_) (by simpa using h)]
 ·simp
 ·rw [← List.map_take,List.take_range] at hy
  obtain ⟨j,hj,rfl⟩:=List.mem_map.1 hy
  exact h0 j (by have:=List.mem_range.1 hj; omega)
theorem scanF_none {f : Nat → Int} {n : Nat} (h0 : ∀ j,j < n → f j = 0) : scanF f n = 0:=by
 unfold scanF
 refine firstE_none _ fun y hy => ?_
 obtain ⟨j,hj,rfl⟩:=List.mem_map.1 hy
 exact h0 j (List.mem_range.1 hj)
theorem scanF_0 {f : Nat → Int} {n : Nat} (h : scanF f n = 0) : ∀ j,j < n → f j = 0:=by
 intro j
 induction j using Nat.strongRecOn with
 | ind j ih =>
  intro hj
  by_cases h1 : f j = 0
  ·exact h1
  ·have:=scanF_hit hj (fun i hi => ih i hi (by omega)) h1
   rw [h] at this
   exact absurd this.symm h1
structure RoomE where
  key : List UInt8
  gives : List (List UInt8)
  B : Option Addr
  c : Nat
instance : Inhabited RoomE := ⟨⟨[], [], none, 0⟩⟩
structure DoorE where
  key : List UInt8
  src : List UInt8
  dst : List UInt8
  time : Int
  needs : List (List UInt8)
  takes : List (List UInt8)
  trick : List UInt8
  N : Option Addr
  nc : Nat
  T : Option Addr
  tc : Nat
instance : Inhabited DoorE := ⟨⟨[], [], [], 0, [], [], [], none, 0, none, 0⟩⟩
def onceT (l : List (List UInt8)) : List (List UInt8):=Lib.compact (l.mergeSort fun x y => decide (x ≤ y))
def allT (rs : List RoomE) (ds : List DoorE) : List (List UInt8):=rs.flatMap RoomE.gives ++ ds.flatMap fun d => d.needs ++ d.takes
end Go.Proofs.YtgeaeockmadhcaaGreatDoor
