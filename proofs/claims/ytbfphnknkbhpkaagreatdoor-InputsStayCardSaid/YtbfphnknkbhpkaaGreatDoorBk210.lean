/- Texts of this seat, laid together: Iv. -/
import Derived.Lib.Hide
import Derived.Handy
import Derived.Test.YtbfphnknkbhpkaaGreatDoorBk201
import Derived.Test.YtbfphnknkbhpkaaGreatDoorBk200
/- The walk of the stream's function that draws a right input. -/
namespace Go.Proofs.YtbfphnknkbhpkaaGreatDoor
set_option linter.unusedVariables false
set_option linter.unusedSimpArgs false
open Go.RowKit

theorem pick_held {r : Int} (h : r ∈ [0,1,2,2,16,17,18,18,(34 : Int)]) : 0 ≤ r ∧ r ≤ 63:=by
 simp only [List.mem_cons,List.not_mem_nil,or_false] at h
 omega
theorem pick_frames {r : Int} (h : r ∈ [1,1,2,3,7,(20 : Int)]) : 1 ≤ r ∧ r ≤ 20:=by
 simp only [List.mem_cons,List.not_mem_nil,or_false] at h
 omega
theorem rp_right {ps : List (Int × Int)} (hl : ps.length ≤ 8) (h : ∀ p ∈ ps,0 ≤ p.1 ∧ p.1 ≤ 63 ∧ 1 ≤ p.2 ∧ p.2 ≤ 20) : inFault ps = 0:=by
 have h1:=psum_le ps 20 (by omega) (fun p hp => (h p hp).2.2.2)
 rw [inFault_good ps (by omega) (fun p hp => (vld_iff p).2 (by have:=h p hp; omega)),if_neg (by omega)]
end Go.Proofs.YtbfphnknkbhpkaaGreatDoor
