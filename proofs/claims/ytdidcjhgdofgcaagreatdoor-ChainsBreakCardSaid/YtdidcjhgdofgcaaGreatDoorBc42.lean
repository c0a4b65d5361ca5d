/- Texts of this seat, laid together: AgA SortD AgB. -/
import Derived.Test.YtdidcjhgdofgcaaGreatDoorBc41
import Derived.Test.YtdidcjhgdofgcaaGreatDoorBc02
import Derived.Test.YtdidcjhgdofgcaaGreatDoorBc04
/- The walks of slices.Clone, IndexFunc and ContainsFunc over integers, TimingsFault and the closure of Agreed. -/
namespace Go.Proofs.YtdidcjhgdofgcaaGreatDoor
set_option linter.unusedVariables false
set_option linter.unusedSimpArgs false
open Go.RowKit

def tmBad (n : Int) : Bool := decide (n < 0) || decide (864000000 < n)

end Go.Proofs.YtdidcjhgdofgcaaGreatDoor
/- What is asked of slices.Sort over integers; it is paid out of the library's contract. -/
namespace Go.Proofs.YtdidcjhgdofgcaaGreatDoor
set_option linter.unusedVariables false
set_option linter.unusedSimpArgs false
open Go.RowKit

end Go.Proofs.YtdidcjhgdofgcaaGreatDoor
/- The walk of Agreed. -/
namespace Go.Proofs.YtdidcjhgdofgcaaGreatDoor
set_option linter.unusedVariables false
set_option linter.unusedSimpArgs false
open Go.RowKit

theorem tmBad_iff (l : List Int) (within : Int) : (l ++ [within]).any tmBad = false ↔ tmOk l within := by
  rw [List.any_eq_false]
  unfold tmOk tmBad
  constructor
  · intro h
    refine ⟨fun x hx => ?_, ?_⟩
    · have := h x (by simp [hx]); simp at this; omega
    · have := h within (by simp); simp at this; omega
  · rintro ⟨h1, h2⟩ x hx
    rcases List.mem_append.1 hx with hx | hx
    · have := h1 x hx; simp; omega
    · simp at hx; subst hx; simp; omega
theorem agR_bad {l : List Int} {within : Int} (h : ¬ tmF l within = 0) : agR l within = -1 := by rw [agR, if_neg h]
theorem agR_ok {l : List Int} {within : Int} (h : tmF l within = 0) : agR l within = agS (sorted l) within := by rw [agR, if_pos h]
theorem ret3_is {a b c x y z : Value} (h1 : a = x) (h2 : b = y) (h3 : c = z) : Ending.returned (.tuple #[a, b, c]) = .returned (.tuple #[x, y, z]) := by rw [h1, h2, h3]

end Go.Proofs.YtdidcjhgdofgcaaGreatDoor
