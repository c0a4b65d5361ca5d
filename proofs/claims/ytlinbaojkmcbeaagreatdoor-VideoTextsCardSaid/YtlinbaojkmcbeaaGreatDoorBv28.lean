/- Texts of this seat, laid together: Wt. -/
import Derived.Handy
import Derived.Test.YtlinbaojkmcbeaaGreatDoorBv19
import Derived.Test.YtlinbaojkmcbeaaGreatDoorBv25
import Derived.Test.YtlinbaojkmcbeaaGreatDoorBv06
import Derived.Test.YtlinbaojkmcbeaaGreatDoorBv26
import Derived.Test.YtlinbaojkmcbeaaGreatDoorBv15
import Derived.Test.YtlinbaojkmcbeaaGreatDoorBv08
import Derived.Test.YtlinbaojkmcbeaaGreatDoorBv09
import Derived.Test.YtlinbaojkmcbeaaGreatDoorBv27
/- The walks of segment.Text and splitref1.HistoryLines at a right history. -/
namespace Go.Proofs.YtlinbaojkmcbeaaGreatDoor
set_option linter.unusedVariables false
set_option linter.unusedSimpArgs false
open Go.RowKit Go.Sort

theorem ba_app (a b : List UInt8) : (⟨a.toArray⟩ : ByteArray) ++ ⟨b.toArray⟩ = ⟨(a ++ b).toArray⟩ := by
  apply ByteArray.ext
  simp
/-- What segment.Text hands out of a right history: too long a text is none. -/
def textV (T : List UInt8) : Value := if 200000 < T.length then .tuple #[.string ⟨#[]⟩, .int .i64 2] else .tuple #[encStr T, .int .i64 0]
def TextPost (w : World) (segs : List (List UInt8)) (atts : List Att) (e : Ending) (w' : World) : Prop := e = .returned (textV (histT segs atts)) ∧ Below w.heap.size w w'
end Go.Proofs.YtlinbaojkmcbeaaGreatDoor
