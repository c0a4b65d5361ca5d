/- Texts of this seat, laid together: MqA. -/
import Derived.Lib.SlicesCompact
import Derived.Test.YtkchacgkjdeiaaaGreatDoorBf00
import Derived.Test.YtkchacgkjdeiaaaGreatDoorBf05
/- Maps of rooms and doors, plain: what is wrong with them. -/
namespace Go.Proofs.YtkchacgkjdeiaaaGreatDoor
set_option linter.unusedVariables false
set_option linter.unusedSimpArgs false
open Go.RowKit

def scanF (f : Nat → Int) (n : Nat) : Int:=firstE ((List.range n).map f)
theorem scanF_hit {f : Nat → Int} {n k : Nat} (hk : k < n) (h0 : ∀ j,j < k → f j = 0) (h : f k ≠ 0) : scanF f n = f k:=by
 unfold scanF;rw [firstE_hit _ k (by simpa using hk) (fun y hy => ?_) (by simpa using h)]
 ·simp
 ·rw [← List.map_take,List.take_range] at hy
  obtain ⟨j,hj,rfl⟩:=List.mem_map.1 hy;exact h0 j (by have:=List.mem_range.1 hj; omega)
theorem scanF_none {f : Nat → Int} {n : Nat} (h0 : ∀ j,j < n → f j = 0) : scanF f n = 0:=by
 unfold scanF
 refine firstE_none _ fun y hy => ?_
 obtain ⟨j,hj,rfl⟩:=List.mem_map.1 hy;exact h0 j (List.mem_range.1 hj)
theorem scanF_0 {f : Nat → Int} {n : Nat} (h : scanF f n = 0) : ∀ j,j < n → f j = 0:=by
 intro j
 induction j using Nat.strongRecOn with
 | ind j ih =>
  intro hj
  by_cases h1 : f j = 0
  ·exact h1
  ·have:=scanF_hit hj (fun i hi => ih i hi (by omega)) h1
   rw [h] at this;exact absurd this.symm h1
def riseAt (l : List (List UInt8)) (i : Nat) : Int:=if !keyB (l.getD i []) then 5 else if 0 < i ∧ ¬ (l.getD (i - 1) [] < l.getD i []) then 7 else 0
def riseF (l : List (List UInt8)) : Int:=scanF (riseAt l) l.length
def thingsE (l : List (List UInt8)) : Int:=if 10 < l.length then 2 else riseF l
structure RoomE where
  key : List UInt8
  gives : List (List UInt8)
  B : Option Addr
  c : Nat
instance : Inhabited RoomE := ⟨⟨[], [], none, 0⟩⟩
structure DoorE where
  key : List UInt8
  src : List UInt8
  dst : List UInt8
  time : Int
  needs : List (List UInt8)
  takes : List (List UInt8)
  trick : List UInt8
  N : Option Addr
  nc : Nat
  T : Option Addr
  tc : Nat
instance : Inhabited DoorE := ⟨⟨[], [], [], 0, [], [], [], none, 0, none, 0⟩⟩
def roomAt (rs : List RoomE) (i : Nat) : Int :=
 if !keyB (rs.getD i default).key then 5 else if 0 < i ∧ ¬ ((rs.getD (i - 1) default).key < (rs.getD i default).key) then 7 else thingsE (rs.getD i default).gives
def roomsE (rs : List RoomE) : Int:=if 100 < rs.length then 2 else scanF (roomAt rs) rs.length
def hasR (rs : List RoomE) (k : List UInt8) : Bool:=rs.any fun r => r.key == k
def doorAt (rs : List RoomE) (ds : List DoorE) (i : Nat) : Int :=
 if !keyB (ds.getD i default).key then 5 else if 0 < i ∧ ¬ ((ds.getD (i - 1) default).key < (ds.getD i default).key) then 7
 else if !hasR rs (ds.getD i default).src || !hasR rs (ds.getD i default).dst then 8
 else if (ds.getD i default).time < 1 ∨ 864000000 < (ds.getD i default).time then 1
 else if firstE [thingsE (ds.getD i default).needs,thingsE (ds.getD i default).takes] ≠ 0 then firstE [thingsE (ds.getD i default).needs,thingsE (ds.getD i default).takes]
 else if (ds.getD i default).trick ≠ [] ∧ !keyB (ds.getD i default).trick then 5 else 0
def doorsE (rs : List RoomE) (ds : List DoorE) : Int:=if 500 < ds.length then 2 else scanF (doorAt rs ds) ds.length
def onceT (l : List (List UInt8)) : List (List UInt8):=Lib.compact (l.mergeSort fun x y => decide (x ≤ y))
def allT (rs : List RoomE) (ds : List DoorE) : List (List UInt8):=rs.flatMap RoomE.gives ++ ds.flatMap fun d => d.needs ++ d.takes
def allK (ds : List DoorE) : List (List UInt8):=(ds.filter fun d => d.trick != []).map DoorE.trick
def mapE (rs : List RoomE) (ds : List DoorE) (start goal : List UInt8) : Int :=
 if roomsE rs ≠ 0 then roomsE rs else if doorsE rs ds ≠ 0 then doorsE rs ds
 else if !hasR rs start || !hasR rs goal then 8
 else if 10 < (onceT (allT rs ds)).length ∨ 12 < (onceT (allK ds)).length then 2 else 0
def trickAt (ds : List DoorE) (l : List (List UInt8)) (i : Nat) : Int:=if ¬ l.getD i [] ∈ onceT (allK ds) then 5 else if 0 < i ∧ ¬ (l.getD (i - 1) [] < l.getD i []) then 7 else 0
def tricksE (rs : List RoomE) (ds : List DoorE) (start goal : List UInt8) (l : List (List UInt8)) : Int:=if mapE rs ds start goal ≠ 0 then mapE rs ds start goal else scanF (trickAt ds l) l.length
end Go.Proofs.YtkchacgkjdeiaaaGreatDoor
