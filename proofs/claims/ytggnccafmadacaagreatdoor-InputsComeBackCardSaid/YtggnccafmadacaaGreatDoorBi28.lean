/- Texts of this seat, laid together: AgA. -/
import Derived.Test.YtggnccafmadacaaGreatDoorBi00
import Derived.Test.YtggnccafmadacaaGreatDoorBi08
import Derived.Test.YtggnccafmadacaaGreatDoorBi02
/- The walks of slices.Clone, IndexFunc and ContainsFunc over integers, TimingsFault and the closure of Agreed. -/
namespace Go.Proofs.YtggnccafmadacaaGreatDoor
set_option linter.unusedVariables false
set_option linter.unusedSimpArgs false
open Go.RowKit

set_option maxHeartbeats 1000000 in
theorem cloneI_any (A : Option Addr) (c lo : Nat) (ps : List Int) (w : World) (hr : Row w lo 1 A ps.length (ints ps)) (hl : ps.length ≤ 1000000000) :
  Calls Tryz.prog 97 #[.slice A ps.length c] w fun e w' => ∃ A' c',e = .returned (.slice A' ps.length c') ∧ w'.ownsRow w.heap.size 3 1 (.slice A' ps.length c') ps.length (ints ps) ∧ Below w.heap.size w w':=by
 have hnil:=fun (r : Option Addr) (n c : Nat) (w : World) => Lib.run_eql_slice_nil (P:=Tryz.prog) w 22 3 r n c 0 0 Tryz.underlying22
 cases A with
 | none =>
  have hz : ps.length = 0:=by
   rcases Nat.eq_zero_or_pos ps.length with h | h
   ·exact h
   ·obtain ⟨b,off,h1,_⟩:=hr.2 h
    cases h1
  have HZ:=Lib.hid hz
  clear hz
  go_enter Tryz.func97,Tryz.ntmps97
  go_wp2_with fail
  go_ret
  refine ⟨none,0,?_,?_,Below.refl _ _⟩
  ·rw [HZ.out]; rfl
  ·have : ps = []:=List.eq_nil_of_length_eq_zero HZ.out
   subst this
   exact World.ownsRow_nil _ _ _ _
 | some ad =>
  have hown0 : (w.alloc (.cells #[] 3)).ownsRow w.heap.size 3 1 (.slice (some ⟨w.heap.size,0,none⟩) 0 0) 0 []:=World.ownsRow_made w #[] 0 (Nat.le_refl _) (by simp [maxLen]) rfl
  go_enter Tryz.func97,Tryz.ntmps97
  go_wp2_with (at_builtin; go_must (refine wpList_app _ _ rfl _ _ ty_ints rfl hown0 rfl (hr.alloc _) rfl (ints_all _) (by omega) (by omega) (by simp) ?_))
  intro A5 c5 w5 hown5 hg5 _
  go_wp2_with fail
  go_ret
  exact ⟨A5,c5,by first | rfl | simp,hown5,below_app hown0 ((Below.refl _ _).alloc (Nat.le_refl _) _) hg5 (Nat.le_refl _) (by simp)⟩

def tmBad (n : Int) : Bool:=decide (n < 0) || decide (864000000 < n)

end Go.Proofs.YtggnccafmadacaaGreatDoor
