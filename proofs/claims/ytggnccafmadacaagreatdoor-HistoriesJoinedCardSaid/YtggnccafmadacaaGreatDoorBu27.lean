/- Texts of this seat, laid together: Hsz. -/
import Derived.Test.YtggnccafmadacaaGreatDoorBu25
/- The sizes of a history. -/
namespace Go.Proofs.YtggnccafmadacaaGreatDoor
set_option linter.unusedVariables false
set_option linter.unusedSimpArgs false

/-- Sizes that no check refuses. -/
structure HistSz (segs : List (List UInt8)) (atts : List Att) (c : Nat) : Prop where
  hc : segs.length ≤ c
  h9 : segs.length ≤ 1000000000
  h8 : atts.length ≤ 1000000000
  h7 : ∀ i (h : i < atts.length), atts[i].2.length ≤ 1000000000
  h6 : ∀ s ∈ segs, s.length ≤ 1000000000
end Go.Proofs.YtggnccafmadacaaGreatDoor
