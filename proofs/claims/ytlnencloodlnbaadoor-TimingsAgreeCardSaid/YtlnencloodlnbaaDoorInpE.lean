/- The walks of holds, Presses and their references, and of slices.Equal over pieces. -/
import Derived.Test.YtlnencloodlnbaaDoorInpD
namespace Go.Proofs.YtlnencloodlnbaaDoor
open Go.RowKit

theorem holdsM_le (xs : List Int) (b : Int) (k : Nat) : (holdsM xs b k).length ≤ k := by rw [holdsM_len]; exact pressesM_le xs b k
theorem holdsM_long (xs : List Int) (b : Int) (k : Nat) : ∀ p ∈ holdsM xs b k, 0 ≤ p.2 ∧ p.2 ≤ k := by
  induction k with
  | zero => intro p hp; simp [holdsM] at hp
  | succ k ih =>
    rw [holdsM_succ]
    intro p hp
    unfold hstep at hp
    by_cases h1 : hasB (heldL xs k) b = true
    · by_cases h2 : hasB (heldL xs ((k : Int) - 1)) b = true
      · simp only [h1, h2, if_true] at hp
        have hpos := holdsM_pos xs b k h2
        rcases List.mem_or_eq_of_mem_set hp with h3 | h3
        · have := ih p h3; omega
        · have h4 : (holdsM xs b k).getD ((holdsM xs b k).length - 1) (0, 0) ∈ holdsM xs b k := by
            rw [List.getD_eq_getElem?_getD, List.getElem?_eq_getElem (by omega)]; simp
          have := ih _ h4
          rw [h3]; simp only; omega
      · simp only [h1, h2, if_true] at hp
        simp at hp
        rcases hp with h3 | h3
        · have := ih p h3; omega
        · subst h3; simp; omega
    · simp only [h1] at hp
      have := ih p (by simpa using hp); omega

/-- What Presses hands back. -/
def pressR (ps : List (Int × Int)) (b : Int) : Int := if inFault ps = 0 ∧ btnFault b = 0 then (pressesM (unf ps) b (unf ps).length : Int) else 0
def pressE (ps : List (Int × Int)) (b : Int) : Int := if inFault ps = 0 then btnFault b else inFault ps
theorem pressR_ok {ps : List (Int × Int)} {b : Int} (h : inFault ps = 0) (h' : btnFault b = 0) : pressR ps b = (pressesM (unf ps) b (unf ps).length : Int) := by simp [pressR, h, h']
theorem pressR_bad {ps : List (Int × Int)} {b : Int} (h : ¬ (inFault ps = 0 ∧ btnFault b = 0)) : pressR ps b = 0 := by simp only [pressR, h, if_false]
theorem btn_ok {b : Int} (h : b ∈ btns) : btnFault b = 0 := by simp [btnFault, h]
theorem btn_bad {b : Int} (h : ¬ b ∈ btns) : btnFault b = 4 := by simp [btnFault, h]
theorem unf_mem {ps : List (Int × Int)} {P : Int → Prop} (h : ∀ p ∈ ps, P p.1) : ∀ x ∈ unf ps, P x := by
  intro x hx
  obtain ⟨p, hp, hq⟩ := List.mem_flatMap.1 hx
  rw [List.eq_of_mem_replicate hq]
  exact h p hp

end Go.Proofs.YtlnencloodlnbaaDoor
