/- slices.Sort over integers, out of the library's contract. -/
import Derived.Test.YtlnencloodlnbaaDoorSortD
import Derived.Test.YtlnencloodlnbaaDoorShelf
import Derived.Sort.OwnSortedInts
namespace Go.Proofs.YtlnencloodlnbaaDoor
open Go.RowKit Go.Sort

theorem sortsI : SortsI := by
  intro g c base zs w ho hl
  rcases ho.2 with ⟨h0, _⟩ | ⟨g', cap, cur, hv, hg, hh, hcap, hm, hcs, ht⟩
  · cases h0
  · injection hv with h1 h2 h3
    injection h1 with h1
    injection h1 with h1
    subst h1 h3
    rw [Nat.mul_one] at ht
    refine (Tryd.slices_Sort_int g 0 c zs w (holds_of_blockI hh ht) (Array.getElem?_eq_some_iff.1 hh).1 (by omega)).mono ?_
    rintro e w' ⟨rfl, n, os, rfl⟩
    exact ⟨rfl, ownsRow_sortedI (sorted_len zs) hg hh hcap hm hcs, grownBy_sortedI _⟩
end Go.Proofs.YtlnencloodlnbaaDoor
