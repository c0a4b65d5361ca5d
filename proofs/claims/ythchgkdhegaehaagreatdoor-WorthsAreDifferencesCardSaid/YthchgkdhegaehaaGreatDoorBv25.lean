/- Texts of this seat, laid together: Eqs. -/
import Derived.Handy
import Derived.Test.YthchgkdhegaehaaGreatDoorBv13
import Derived.Test.YthchgkdhegaehaaGreatDoorBv02
import Derived.Test.YthchgkdhegaehaaGreatDoorBv20
/- The walks of slices.Equal and slices.Clone over strings. -/
namespace Go.Proofs.YthchgkdhegaehaaGreatDoor
set_option linter.unusedVariables false
set_option linter.unusedSimpArgs false
open Go.RowKit Go.Sort

set_option maxHeartbeats 1000000 in
theorem cloneS_any (A : Option Addr) (c lo : Nat) (ss : List (List UInt8)) (w : World) (hr : Row w lo 1 A ss.length (strs ss)) (hl : ss.length ≤ 1000000000) :
  Calls Tryz.prog 48 #[.slice A ss.length c] w fun e w' => ∃ A' c',e = .returned (.slice A' ss.length c') ∧ w'.ownsRow w.heap.size 9 1 (.slice A' ss.length c') ss.length (strs ss) ∧ Below w.heap.size w w':=by
 have hnil:=fun (r : Option Addr) (n c : Nat) (w : World) => Lib.run_eql_slice_nil (P:=Tryz.prog) w 31 9 r n c 0 0 Tryz.underlying31
 cases A with
 | none =>
  have hz : ss.length = 0:=by
   rcases Nat.eq_zero_or_pos ss.length with h | h
   ·exact h
   ·obtain ⟨b,off,h1,_⟩:=hr.2 h
    cases h1
  have HZ:=Lib.hid hz
  clear hz
  go_enter Tryz.func48,Tryz.ntmps48
  go_wp2_with fail
  go_ret
  refine ⟨none,0,?_,?_,Below.refl _ _⟩
  ·rw [HZ.out]; rfl
  ·have : ss = []:=List.eq_nil_of_length_eq_zero HZ.out
   subst this
   exact World.ownsRow_nil _ _ _ _
 | some ad =>
  have hown0 : (w.alloc (.cells #[] 9)).ownsRow w.heap.size 9 1 (.slice (some ⟨w.heap.size,0,none⟩) 0 0) 0 []:=World.ownsRow_made w #[] 0 (Nat.le_refl _) (by simp [maxLen]) rfl
  go_enter Tryz.func48,Tryz.ntmps48
  go_wp2_with (at_builtin; go_must (refine wpList_app _ _ rfl _ _ ty_strs rfl hown0 rfl (hr.alloc _) rfl (strs_all _) (by omega) (by omega) (by simp) ?_))
  intro A5 c5 w5 hown5 hg5 _
  go_wp2_with fail
  go_ret
  exact ⟨A5,c5,by first | rfl | simp,hown5,below_app hown0 ((Below.refl _ _).alloc (Nat.le_refl _) _) hg5 (Nat.le_refl _) (by simp)⟩
end Go.Proofs.YthchgkdhegaehaaGreatDoor
