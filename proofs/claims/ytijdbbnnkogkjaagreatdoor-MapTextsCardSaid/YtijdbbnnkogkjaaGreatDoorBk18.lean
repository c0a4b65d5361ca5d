/- Texts of this seat, laid together: Ito. -/
import Derived.Test.YtijdbbnnkogkjaaGreatDoorBk16
import Derived.Test.YtijdbbnnkogkjaaGreatDoorBk02
import Derived.Test.YtijdbbnnkogkjaaGreatDoorBk12
/- Itoa, where the table of powers lies. -/
namespace Go.Proofs.YtijdbbnnkogkjaaGreatDoor
set_option linter.unusedVariables false
set_option linter.unusedSimpArgs false
open Go.RowKit Go.Sort

theorem itoaE_any (n : Int) (h0 : -9223372036854775808 ≤ n) (h1 : n ≤ 9223372036854775807) (w : World) (ht : Env w) :
  Calls Tryz.prog 65 #[.int .i64 n] w fun e w' => e = .returned (encStr (Lib.itoa n)) ∧ Below w.heap.size w w':=by
 refine (Tryz.strconv_Itoa n h0 h1 w ht.1).mono ?_
 rintro e w' ⟨rfl,k,os,rfl⟩
 exact ⟨rfl,below_up (below_drewN' (Below.refl _ _) k) (below_grow _ os)⟩
end Go.Proofs.YtijdbbnnkogkjaaGreatDoor
