/- Texts of this seat, laid together: GmO Cn. -/
import Derived.Test.YtkchacgkjdeiaaaGreatDoorProg
import Derived.Test.YtkchacgkjdeiaaaGreatDoorBf02
import Derived.Test.YtkchacgkjdeiaaaGreatDoorBf04
import Derived.Test.YtkchacgkjdeiaaaGreatDoorBf05
import Derived.Test.YtkchacgkjdeiaaaGreatDoorBf06
/- The walk of OnesCount at small numbers. -/
set_option linter.unusedVariables false
set_option linter.unusedSimpArgs false
namespace Go.Proofs.YtkchacgkjdeiaaaGreatDoor
open Go.RowKit

def oc1 (x : Int) : Int:=IntKind.u64.wrap (bits BinOp.and IntKind.u64 (x / 2) 6148914691236517205 + bits BinOp.and IntKind.u64 x 6148914691236517205)
def oc2 (x : Int) : Int:=IntKind.u64.wrap (bits BinOp.and IntKind.u64 (x / 4) 3689348814741910323 + bits BinOp.and IntKind.u64 x 3689348814741910323)
def oc3 (x : Int) : Int:=bits BinOp.and IntKind.u64 (IntKind.u64.wrap (x / 16 + x)) 1085102592571150095
def oc4 (x : Int) : Int:=IntKind.u64.wrap (x + x / 256)
def oc5 (x : Int) : Int:=IntKind.u64.wrap (x + x / 65536)
def oc6 (x : Int) : Int:=IntKind.u64.wrap (x + x / 4294967296)
def oc7 (x : Int) : Int:=bits BinOp.and IntKind.i64 (wrap64 x) 127
theorem oc_all : ∀ m : Fin 1024,oc7 (oc6 (oc5 (oc4 (oc3 (oc2 (oc1 (m.val : Int))))))) = (popN m.val : Int):=by decide +kernel
set_option maxHeartbeats 2000000 in
set_option maxRecDepth 100000 in
theorem onesCount64_any (m : Nat) (hm : m < 1024) (w : World) :
  Calls Tryz.prog 120 #[.int .u64 m] w fun e w' => e = .returned (.int .i64 (popN m)) ∧ w' = w:=by
 go_enter Tryz.func120,Tryz.ntmps120
 go_wp2_with fail;go_ret;refine ⟨?_,rfl⟩;refine congrArg Ending.returned ?_;simp only [Array.getD,Frame.tmps];have:=oc_all ⟨m,hm⟩;simp only [oc1,oc2,oc3,oc4,oc5,oc6,oc7] at this
 simp at this ⊢
 exact this
set_option maxHeartbeats 2000000 in
set_option maxRecDepth 100000 in
theorem onesCount_any (m : Nat) (hm : m < 1024) (w : World) :
  Calls Tryz.prog 87 #[.int .u64 m] w fun e w' => e = .returned (.int .i64 (popN m)) ∧ w' = w:=by
 go_enter Tryz.func87,Tryz.ntmps87
 go_wp2_with fail;go_at_call 120;refine (onesCount64_any m hm _).mono ?_;rintro e w1 ⟨rfl,rfl⟩;go_wp2_with fail;go_ret;exact ⟨rfl,rfl⟩
end Go.Proofs.YtkchacgkjdeiaaaGreatDoor
/- strings.Count of one byte, over lists. -/
namespace Go.Proofs.YtkchacgkjdeiaaaGreatDoor
open Go.RowKit Go.Sort

theorem count_any (s : List UInt8) (c : UInt8) (w : World) :
  Calls Tryz.prog 33 #[encStr s,.string ⟨#[c]⟩] w fun e w' => e = .returned (.int .i64 (s.count c : Nat)) ∧ w' = w:=by
 refine (Tryz.strings_Count_one ⟨s.toArray⟩ c w).mono ?_;rintro e w' ⟨rfl,rfl⟩;exact ⟨rfl,rfl⟩
end Go.Proofs.YtkchacgkjdeiaaaGreatDoor
