/- Which of some sums others do not have: plain mathematics; no program of Go in sight. -/
import Derived.Test.YtlnencloodlnbaaDoorBase
namespace Go.Proofs.YtlnencloodlnbaaDoor

abbrev Sm := List UInt8
/-- How many of b are found among the first i of a. -/
def nx (a b : List Sm) : Nat → Nat
  | 0 => 0
  | i + 1 => if nx a b i < b.length ∧ b.getD (nx a b i) [] = a.getD i [] then nx a b i + 1 else nx a b i
def hit (a b : List Sm) (i : Nat) : Prop := nx a b i < b.length ∧ b.getD (nx a b i) [] = a.getD i []
instance (a b : List Sm) (i : Nat) : Decidable (hit a b i) := by unfold hit; infer_instance
theorem nx_hit {a b : List Sm} {i : Nat} (h : hit a b i) : nx a b (i + 1) = nx a b i + 1 := by unfold hit at h; rw [nx, if_pos h]
theorem nx_not {a b : List Sm} {i : Nat} (h : ¬ hit a b i) : nx a b (i + 1) = nx a b i := by unfold hit at h; rw [nx, if_neg h]
theorem nx_le (a b : List Sm) : ∀ i, nx a b i ≤ i ∧ nx a b i ≤ b.length := by
  intro i
  induction i with
  | zero => simp [nx]
  | succ i ih =>
    by_cases h : hit a b i
    · rw [nx_hit h]; have := h.1; omega
    · rw [nx_not h]; omega
def setLast (l : List (Int × Int)) (x : Int) : List (Int × Int) := l.set (l.length - 1) ((l.getD (l.length - 1) (0, 0)).1, x)
theorem setLast_len (l : List (Int × Int)) (x : Int) : (setLast l x).length = l.length := by simp [setLast]
/-- The windows of what is missing among the first i. -/
def win (a b : List Sm) : Nat → List (Int × Int)
  | 0 => []
  | i + 1 => if hit a b i then win a b i else if 0 < i ∧ ¬ hit a b (i - 1) then setLast (win a b i) (i + 1) else win a b i ++ [((i : Int), (i : Int) + 1)]
theorem win_hit {a b : List Sm} {i : Nat} (h : hit a b i) : win a b (i + 1) = win a b i := by rw [win, if_pos h]
theorem win_more {a b : List Sm} {i : Nat} (h : ¬ hit a b i) (h' : 0 < i ∧ ¬ hit a b (i - 1)) : win a b (i + 1) = setLast (win a b i) (i + 1) := by rw [win, if_neg h, if_pos h']
theorem win_new {a b : List Sm} {i : Nat} (h : ¬ hit a b i) (h' : ¬ (0 < i ∧ ¬ hit a b (i - 1))) : win a b (i + 1) = win a b i ++ [((i : Int), (i : Int) + 1)] := by rw [win, if_neg h, if_neg h']
theorem getD_pr (l : List (Int × Int)) (k : Nat) (h : k < l.length) : l.getD k (0, 0) = l[k] := by rw [List.getD_eq_getElem?_getD, List.getElem?_eq_getElem h]; rfl
/-- What is known of the last window. -/
theorem win_inv (a b : List Sm) : ∀ i, (win a b i).length ≤ i ∧ ((0 < i ∧ ¬ hit a b (i - 1)) → 0 < (win a b i).length ∧ ((win a b i).getD ((win a b i).length - 1) (0, 0)).2 = i) ∧ (¬ (0 < i ∧ ¬ hit a b (i - 1)) → ∀ p ∈ win a b i, p.2 < i) ∧ ∀ p ∈ win a b i, p.2 ≤ i := by
  intro i
  induction i with
  | zero => simp [win]
  | succ i ih =>
    obtain ⟨h1, h2, h3, h4⟩ := ih
    by_cases h : hit a b i
    · rw [win_hit h]
      refine ⟨by omega, fun hh => absurd h (by simpa using hh.2), fun _ p hp => by have := h4 p hp; omega, fun p hp => by have := h4 p hp; omega⟩
    · by_cases h' : 0 < i ∧ ¬ hit a b (i - 1)
      · obtain ⟨g1, g2⟩ := h2 h'
        rw [win_more h h']
        refine ⟨by rw [setLast_len]; omega, fun _ => ⟨by rw [setLast_len]; exact g1, ?_⟩, fun hh => absurd ⟨by omega, by simpa using h⟩ hh, fun p hp => ?_⟩
        · rw [setLast_len, getD_pr _ _ (by rw [setLast_len]; omega)]
          simp [setLast]
        · rcases List.mem_or_eq_of_mem_set hp with hp | hp
          · have := h4 p hp; omega
          · subst hp; simp
      · rw [win_new h h']
        refine ⟨by simp; omega, fun _ => ⟨by simp, ?_⟩, fun hh => absurd ⟨by omega, by simpa using h⟩ hh, fun p hp => ?_⟩
        · rw [getD_pr _ _ (by simp)]
          simp
        · rcases List.mem_append.1 hp with hp | hp
          · have := h4 p hp; omega
          · simp at hp; subst hp; simp
theorem win_last (a b : List Sm) (i : Nat) : (0 < (win a b i).length ∧ ((win a b i).getD ((win a b i).length - 1) (0, 0)).2 = i) ↔ (0 < i ∧ ¬ hit a b (i - 1)) := by
  obtain ⟨_, h2, h3, _⟩ := win_inv a b i
  constructor
  · rintro ⟨g1, g2⟩
    apply Classical.byContradiction
    intro h
    have := h3 h _ (by rw [getD_pr _ _ (by omega)] at g2; exact List.getElem_mem (show (win a b i).length - 1 < (win a b i).length by omega))
    rw [getD_pr _ _ (by omega)] at g2
    omega
  · exact h2
def msB (a b : List Sm) : Bool := decide (¬ nx a b a.length < b.length)
def msL (a b : List Sm) : List (Int × Int) := if nx a b a.length < b.length then [] else win a b a.length
theorem ms_no {a b : List Sm} (h : nx a b a.length < b.length) : msB a b = false ∧ msL a b = [] := by simp [msB, msL, h]
theorem ms_yes {a b : List Sm} (h : ¬ nx a b a.length < b.length) : msB a b = true ∧ msL a b = win a b a.length := by simp only [msB, msL, h, if_false]; simp
theorem sm_at (l : List Sm) (k : Nat) (h : k < l.length) : l.getD k [] = l[k] := by rw [List.getD_eq_getElem?_getD, List.getElem?_eq_getElem h]; rfl
end Go.Proofs.YtlnencloodlnbaaDoor
