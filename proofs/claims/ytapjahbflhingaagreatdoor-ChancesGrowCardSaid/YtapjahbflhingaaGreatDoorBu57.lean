/- Texts of this seat, laid together: Cm. -/
import Derived.Test.YtapjahbflhingaaGreatDoorBu56
import Derived.Test.YtapjahbflhingaaGreatDoorBu53
import Derived.Test.YtapjahbflhingaaGreatDoorBu25
/- What a comparison is, and what its deltas are. Plain laws; no program in sight. -/
namespace Go.Proofs.YtapjahbflhingaaGreatDoor
set_option linter.unusedVariables false
set_option linter.unusedSimpArgs false
open Go.RowKit

def rowsQ (atts : List Att) (n : Nat) : List (List Int) := (List.range n).map fun k => sorted (rowA atts k)
theorem rowsQ_len (atts : List Att) (n : Nat) : (rowsQ atts n).length = n := by simp [rowsQ]
theorem rowsQ_at (atts : List Att) (n k : Nat) (h : k < (rowsQ atts n).length) : (rowsQ atts n)[k] = sorted (rowA atts k) := by simp [rowsQ]
theorem rowsS_full (atts : List Att) (n : Nat) : rowsS atts n n = rowsQ atts n := by
  unfold rowsS rowsQ
  refine List.map_congr_left fun k hk => ?_
  rw [if_pos (by simpa using hk)]
def fullB (rows : List (List Int)) : Bool := rows.all fun r => decide (0 < r.length)
theorem fullB_snoc (rows : List (List Int)) (r : List Int) : fullB (rows ++ [r]) = (fullB rows && decide (0 < r.length)) := by simp [fullB]
/-- So many splits, within bounds. -/
def CmpOk (n : Nat) (o : Option (List Int)) : Prop := ∀ l, o = some l → l.length = n ∧ ∀ i (h : i < l.length), 0 ≤ l[i] ∧ l[i] ≤ 51840000000
theorem CmpOk.none_ (n : Nat) : CmpOk n none := fun _ h => by cases h
def knw (live other : List Int) (k : Nat) : Prop := live.getD k 0 ≠ 0 ∧ other.getD k 0 ≠ 0
instance (live other : List Int) (k : Nat) : Decidable (knw live other k) := by unfold knw; infer_instance
end Go.Proofs.YtapjahbflhingaaGreatDoor
