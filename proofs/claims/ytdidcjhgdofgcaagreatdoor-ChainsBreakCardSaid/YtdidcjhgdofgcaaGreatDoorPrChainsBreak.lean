/- The tied card of the law ChainsBreak: for every list of numbers the call returns true, and the list reads afterwards as it read before; the listed variables of the library are as the program's text lays them. No other conditions. -/
import Derived.Test.YtdidcjhgdofgcaaGreatDoorRows
import Derived.Test.YtdidcjhgdofgcaaGreatDoorCards
import Derived.Test.YtdidcjhgdofgcaaGreatDoorTie
import Derived.Test.YtdidcjhgdofgcaaGreatDoorBc66
import Derived.ProofKit
import Derived.OpenShut
import Derived.ShutString
import Derived.ChangeOld
import Derived.SevenTiedAt
import Derived.LaidLaws
import Derived.LaidHandle
import Derived.JoinedOf
import Derived.Lib.LaidIn
import Derived.Lib.LaidTab
import Derived.Lay
import Derived.MakeChecks
import Derived.Test.YtdidcjhgdofgcaaGreatDoorBc07
import Derived.Test.YtdidcjhgdofgcaaGreatDoorBc38
import Derived.Test.YtdidcjhgdofgcaaGreatDoorBc08
import Derived.Lib.TrailingZeros
namespace Go.Proofs.YtdidcjhgdofgcaaGreatDoor.chainsBreak
set_option linter.unusedVariables false
set_option linter.unusedSimpArgs false
open Go.ChangeShapes Go.WideShapes Go.ChangeAt Go.RowKit
open Go.ChangeMaps (open_string shut_string)

theorem proved : Rows.ChainsBreakCardSaid :=
  Claim7.holds_tied_plain_at .later [] [.data, .data, .data, .data, .pinned] true (true, "0d8d69fe149a1386fd7e2ddec59abe4407d3d66317ee83fa2c9abdfaeb3c7474") true
    over (fun _ h => by cases h) (by kernel_rfl) (fun _ h => by cases h) chainsBreak_row_tie rfl ⟨rfl, rfl⟩ (by kernel_rfl) rfl
    (fun f fn hf hfn => by
      obtain rfl : f = 5 := Option.some.inj ((show Tryz.prog.funcNamed "splitclock/splitkeep1.ChainsBreak" = some 5 by kernel_rfl).symm.trans hf) |>.symm
      obtain rfl : fn = Tryz.f5 := (Option.some.inj (Tryz.func5.symm.trans hfn)).symm
      exact ⟨by kernel_rfl, fun j t ht => by
        rw [Tryz.params5] at ht
        have hm : t ∈ [22] := by simpa using Array.mem_of_getElem? ht
        have hall : ([22].all fun u => !Tryz.prog.wantsStandIn u) = true := by kernel_rfl
        exact (show Tryz.prog.wantsStandIn t = false by simpa using List.all_eq_true.1 hall t hm)⟩)
    (by kernel_rfl)
#print axioms proved
end Go.Proofs.YtdidcjhgdofgcaaGreatDoor.chainsBreak
