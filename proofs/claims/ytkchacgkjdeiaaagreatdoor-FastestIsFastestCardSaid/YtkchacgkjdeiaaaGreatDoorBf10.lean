/- Texts of this seat, laid together: GmW. -/
import Derived.Test.YtkchacgkjdeiaaaGreatDoorBf02
import Derived.Test.YtkchacgkjdeiaaaGreatDoorBf08
import Derived.Test.YtkchacgkjdeiaaaGreatDoorBf09
/- The walks of the cells of a level and of OnesCount. -/
namespace Go.Proofs.YtkchacgkjdeiaaaGreatDoor
set_option linter.unusedVariables false
set_option linter.unusedSimpArgs false
open Go.RowKit

set_option maxHeartbeats 2000000 in
set_option maxRecDepth 100000 in
theorem cellI_any (p lo : Nat) (A : Option Addr) (c : Nat) (rows : List (List UInt8)) (W : Nat) (w : World) (hc : w.cell? ⟨p,0,none⟩ = some (.slice A rows.length c)) (hr : Row w lo 1 A rows.length (strs rows)) (hL : Lv rows W) (x y : Int) (hx : I64 x) (hy : I64 y) :
  Calls Tryz.prog 111 #[.pointer (some ⟨p,0,none⟩),.int .i64 x,.int .i64 y] w fun e w' => e = .returned (.int .u8 (cellF rows W x y)) ∧ w' = w:=by
 obtain ⟨b,off,rfl,hcell⟩:=row0_at hr hL.pos;have hpp:=hL.pos;have hw0 : rows[0].length = W:=hL.wide _ (List.getElem_mem _);have c0:=hcell 0 hL.pos;rw [Nat.add_zero] at c0;unfold encStr at c0
 have hp0 : (0 : Int) < (rows.length : Int):=by have:=hL.pos; omega
 by_cases h1 : (rows.length : Int) ≤ y
 ·have HV:=Lib.hid (cellF_low (W:=W) (x:=x) h1)
  have d0 : decide ((rows.length : Int) ≤ y) = true:=decide_eq_true h1;clear hr hcell
  go_enter Tryz.func111,Tryz.ntmps111
  go_wp2_with fail;go_ret;exact ⟨by rw [HV.out]; rfl,rfl⟩
 have d0 : decide ((rows.length : Int) ≤ y) = false:=decide_eq_false h1
 by_cases h2 : y < 0
 ·have HV:=Lib.hid (cellF_out (rows:=rows) (W:=W) (x:=x) (y:=y) (by omega) (.inl h2))
  have d1 : decide (y < 0) = true:=decide_eq_true h2;clear hr hcell
  go_enter Tryz.func111,Tryz.ntmps111
  go_wp2_with fail;go_ret;exact ⟨by rw [HV.out]; rfl,rfl⟩
 have d1 : decide (y < 0) = false:=decide_eq_false h2
 by_cases h3 : x < 0
 ·have HV:=Lib.hid (cellF_out (rows:=rows) (W:=W) (x:=x) (y:=y) (by omega) (.inr (.inl h3)))
  have d2 : decide (x < 0) = true:=decide_eq_true h3;clear hr hcell
  go_enter Tryz.func111,Tryz.ntmps111
  go_wp2_with fail;go_ret;exact ⟨by rw [HV.out]; rfl,rfl⟩
 have d2 : decide (x < 0) = false:=decide_eq_false h3
 by_cases h4 : (W : Int) ≤ x
 ·have HV:=Lib.hid (cellF_out (rows:=rows) (W:=W) (x:=x) (y:=y) (by omega) (.inr (.inr h4)))
  have d3 : decide ((rows[0].length : Int) ≤ x) = true:=decide_eq_true (by omega);clear hw0 hr hcell
  go_enter Tryz.func111,Tryz.ntmps111
  go_wp2_with fail;go_ret;exact ⟨by rw [HV.out]; rfl,rfl⟩
 have d3 : decide ((rows[0].length : Int) ≤ x) = false:=decide_eq_false (by omega);obtain ⟨X,rfl⟩:=Int.eq_ofNat_of_zero_le (show 0 ≤ x by omega);obtain ⟨Y,rfl⟩:=Int.eq_ofNat_of_zero_le (show 0 ≤ y by omega)
 have hY : Y < rows.length:=by omega
 have hX : X < rows[Y].length:=by rw [hL.wide _ (List.getElem_mem hY)]; omega
 have HV:=Lib.hid (cellF_in (W:=W) hY (by omega) hX);have c1:=hcell Y hY;unfold encStr at c1
 have hY' : (Y : Int) < (rows.length : Int):=by omega
 have hX' : (X : Int) < (rows[Y].length : Int):=by omega
 have d0' : decide (rows.length ≤ Y) = false:=decide_eq_false (by omega);have d3' : decide (rows[0].length ≤ X) = false:=decide_eq_false (by omega);clear hw0 h1 h2 h3 h4 hr hcell
 go_enter Tryz.func111,Tryz.ntmps111
 go_wp2_with fail;go_ret;exact ⟨by rw [HV.out]; rfl,rfl⟩
end Go.Proofs.YtkchacgkjdeiaaaGreatDoor
