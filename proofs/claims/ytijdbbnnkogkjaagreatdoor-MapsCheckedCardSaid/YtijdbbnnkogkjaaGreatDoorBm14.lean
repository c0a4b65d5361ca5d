/- Texts of this seat, laid together: SgC. -/
import Derived.Deep.DeepCutAuto
import Derived.Test.YtijdbbnnkogkjaaGreatDoorBm10
import Derived.Test.YtijdbbnnkogkjaaGreatDoorBm11
import Derived.Test.YtijdbbnnkogkjaaGreatDoorBm12
import Derived.Test.YtijdbbnnkogkjaaGreatDoorBm13
import Derived.Test.YtijdbbnnkogkjaaGreatDoorBm04
/- slices.SortFunc over steps, and the walk of leasts. -/
namespace Go.Proofs.YtijdbbnnkogkjaaGreatDoor
set_option linter.unusedVariables false
set_option linter.unusedSimpArgs false
open Go.RowKit Go.Sort

theorem own_blkS {w : World} {base : Nat} {e : TypeId} {A : Option Addr} {n c : Nat} {xs : List Value} (h : w.ownsRow base e 1 (.slice A n c) n xs) (hn : 0 < n) : ∃ g cs,A = some ⟨g,0,none⟩ ∧ base ≤ g ∧ Blk w g e cs ∧ (∀ i : Nat,i < n → cs[i]? = xs[i]?) ∧ n ≤ cs.size:=by
 rcases h.2 with ⟨_,h0⟩ | ⟨g,cap,cur,hv,hg,hh,hcap,hm,hcs,ht⟩
 ·omega
 ·injection hv with e1 e2 e3
  subst e3
  refine ⟨g,cur,e1,hg,hh,fun i hi => ?_,by omega⟩
  rw [← ht,List.getElem?_take_of_lt (by omega),Array.getElem?_toList]
end Go.Proofs.YtijdbbnnkogkjaaGreatDoor
