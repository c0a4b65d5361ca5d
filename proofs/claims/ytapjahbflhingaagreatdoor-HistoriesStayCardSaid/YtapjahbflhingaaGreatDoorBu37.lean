/- Texts of this seat, laid together: SortI SortJ. -/
import Derived.Sort.OwnSortedInts
import Derived.Test.YtapjahbflhingaaGreatDoorBu29
import Derived.Test.YtapjahbflhingaaGreatDoorBu05
/- slices.Sort over integers, out of the library's contract. -/
namespace Go.Proofs.YtapjahbflhingaaGreatDoor
set_option linter.unusedVariables false
set_option linter.unusedSimpArgs false
open Go.RowKit Go.Sort

theorem sortsI : SortsI:=by
 intro g c base zs w ho hl
 rcases ho.2 with ⟨h0,_⟩ | ⟨g',cap,cur,hv,hg,hh,hcap,hm,hcs,ht⟩
 ·cases h0
 ·injection hv with h1 h2 h3
  injection h1 with h1
  injection h1 with h1
  subst h1 h3
  rw [Nat.mul_one] at ht
  refine (Tryz.slices_Sort_int g 0 c zs w (holds_of_blockI hh ht) (Array.getElem?_eq_some_iff.1 hh).1 (by omega)).mono ?_
  rintro e w' ⟨rfl,n,os,rfl⟩
  exact ⟨rfl,ownsRow_sortedI (sorted_len zs) hg hh hcap hm hcs,grownBy_sortedI _⟩
end Go.Proofs.YtapjahbflhingaaGreatDoor
/- slices.Sort over integers of the call's own, none or more. -/
namespace Go.Proofs.YtapjahbflhingaaGreatDoor
set_option linter.unusedVariables false
set_option linter.unusedSimpArgs false
open Go.RowKit Go.Sort

theorem sortI_any (A : Option Addr) (c base : Nat) (zs : List Int) (w : World) (ho : w.ownsRow base 3 1 (.slice A zs.length c) zs.length (ints zs)) (hl : zs.length ≤ 1000000000) :
  Calls Tryz.prog 89 #[.slice A zs.length c] w fun e w' => e = .returned (.tuple #[]) ∧ w'.ownsRow base 3 1 (.slice A zs.length c) zs.length (ints (sorted zs)) ∧ w.grownBy w' (Value.slice A zs.length c).ownBlock:=by
 rcases ho.2 with ⟨hv,h0⟩ | ⟨g,cap,cur,hv,hg,hh,_⟩
 ·have hz : zs = []:=List.eq_nil_of_length_eq_zero h0
  subst hz
  injection hv with e1 _ e2
  subst e1 e2
  refine (Tryz.slices_Sort_int_none none 0 w).mono ?_
  rintro e w' ⟨rfl,rfl⟩
  exact ⟨rfl,by simpa [sorted] using ho,World.grownBy.refl _ _⟩
 ·injection hv with e1 _ e2
  subst e1
  exact sortsI g c base zs w ho hl
end Go.Proofs.YtapjahbflhingaaGreatDoor
