/- Timings that agree: plain mathematics; no program of Go in sight. -/
import Derived.Test.YtlnencloodlnbaaDoorBase
namespace Go.Proofs.YtlnencloodlnbaaDoor

def sorted (l : List Int) : List Int := l.mergeSort fun x y => decide (x ≤ y)
theorem sorted_len (l : List Int) : (sorted l).length = l.length := List.length_mergeSort _
theorem sorted_mem {l : List Int} {x : Int} : x ∈ sorted l ↔ x ∈ l := List.mem_mergeSort
/-- How far the group of place i goes. -/
def rch (s : List Int) (within : Int) (i : Nat) : Nat := i + ((s.drop i).takeWhile fun y => decide (y - s.getD i 0 ≤ within)).length
theorem takeWhile_len (l : List Int) (p : Int → Bool) (k : Nat) (hk : k ≤ l.length) (h : ∀ j, (hj : j < l.length) → j < k → p l[j] = true) (he : k = l.length ∨ ∃ h : k < l.length, p l[k] = false) : (l.takeWhile p).length = k := by
  induction l generalizing k with
  | nil => simp at hk ⊢; omega
  | cons x l ih =>
    cases k with
    | zero =>
      rcases he with he | ⟨_, he⟩
      · simp at he
      · simp at he; simp [he]
    | succ k =>
      have hx := h 0 (by simp) (by omega)
      simp at hx
      rw [List.takeWhile_cons, if_pos hx, List.length_cons]
      rw [ih k (by simpa using hk) (fun j hj hjk => by have := h (j + 1) (by simpa using hj) (by omega); simpa using this) ?_]
      rcases he with he | ⟨h1, he⟩
      · exact .inl (by simpa using he)
      · exact .inr ⟨by simpa using h1, by simpa using he⟩
theorem rch_eq {s : List Int} {within : Int} {i k : Nat} (hi : i < s.length) (h1 : i ≤ k) (h2 : k ≤ s.length) (h : ∀ j, (hj : j < s.length) → i ≤ j → j < k → s[j] - s[i] ≤ within) (he : k = s.length ∨ ∃ h : k < s.length, ¬ s[k] - s[i] ≤ within) : rch s within i = k := by
  unfold rch
  have hg : s.getD i 0 = s[i] := by rw [List.getD_eq_getElem?_getD, List.getElem?_eq_getElem hi]; rfl
  rw [hg, takeWhile_len (s.drop i) _ (k - i) (by simp; omega) (fun j hj hjk => by
    simp at hj ⊢
    exact h (i + j) (by omega) (by omega) (by omega)) ?_]
  · omega
  · rcases he with he | ⟨h3, he⟩
    · exact .inl (by simp; omega)
    · refine .inr ⟨by simp; omega, ?_⟩
      simp only [List.getElem_drop]
      have : i + (k - i) = k := by omega
      simp only [this]
      simpa using he
theorem rch_le (s : List Int) (within : Int) (i : Nat) (hi : i ≤ s.length) : i ≤ rch s within i ∧ rch s within i ≤ s.length := by
  unfold rch
  have := (List.takeWhile_prefix (fun y => decide (y - s.getD i 0 ≤ within)) (l := s.drop i)).length_le
  rw [List.length_drop] at this
  omega
/-- The first greatest group: where it begins, and how many there are. -/
def bst (s : List Int) (within : Int) : Nat → Nat × Nat
  | 0 => (0, 0)
  | i + 1 => if (bst s within i).2 < rch s within i - i then (i, rch s within i - i) else bst s within i
theorem bst_le (s : List Int) (within : Int) : ∀ i, i ≤ s.length → (bst s within i).1 + (bst s within i).2 ≤ s.length := by
  intro i
  induction i with
  | zero => intro _; simp [bst]
  | succ i ih =>
    intro h
    have := ih (by omega)
    have r := rch_le s within i (by omega)
    rw [bst]
    split
    · simp; omega
    · exact this
theorem bst_new {s : List Int} {within : Int} {i : Nat} (h : (bst s within i).2 < rch s within i - i) : bst s within (i + 1) = (i, rch s within i - i) := by rw [bst, if_pos h]
theorem bst_old {s : List Int} {within : Int} {i : Nat} (h : ¬ (bst s within i).2 < rch s within i - i) : bst s within (i + 1) = bst s within i := by rw [bst, if_neg h]
/-- What is agreed upon, or -1. -/
def agS (s : List Int) (within : Int) : Int := if 2 * (bst s within s.length).2 ≤ s.length then -1 else s.getD ((bst s within s.length).1 + ((bst s within s.length).2 - 1) / 2) 0
theorem agS_no {s : List Int} {within : Int} (h : 2 * (bst s within s.length).2 ≤ s.length) : agS s within = -1 := by rw [agS, if_pos h]
theorem agS_yes {s : List Int} {within : Int} (h : ¬ 2 * (bst s within s.length).2 ≤ s.length) : ∃ hk : (bst s within s.length).1 + ((bst s within s.length).2 - 1) / 2 < s.length, agS s within = s[(bst s within s.length).1 + ((bst s within s.length).2 - 1) / 2] := by
  have b := bst_le s within s.length (Nat.le_refl _)
  have hk : (bst s within s.length).1 + ((bst s within s.length).2 - 1) / 2 < s.length := by omega
  refine ⟨hk, ?_⟩
  rw [agS, if_neg h, List.getD_eq_getElem?_getD, List.getElem?_eq_getElem hk]; rfl
def tmOk (l : List Int) (within : Int) : Prop := (∀ x ∈ l, 0 ≤ x ∧ x ≤ 864000000) ∧ 0 ≤ within ∧ within ≤ 864000000
instance (l : List Int) (within : Int) : Decidable (tmOk l within) := by unfold tmOk; infer_instance
def tmF (l : List Int) (within : Int) : Int := if l.length = 0 then 8 else if 50 < l.length then 2 else if tmOk l within then 0 else 1
theorem tmF_none {l : List Int} {within : Int} (h : l.length = 0) : tmF l within = 8 := by rw [tmF, if_pos h]
theorem tmF_large {l : List Int} {within : Int} (h : 50 < l.length) : tmF l within = 2 := by rw [tmF, if_neg (by omega), if_pos h]
theorem tmF_ok {l : List Int} {within : Int} (h : l.length ≠ 0) (h' : ¬ 50 < l.length) (hk : tmOk l within) : tmF l within = 0 := by rw [tmF, if_neg h, if_neg h', if_pos hk]
theorem tmF_arg {l : List Int} {within : Int} (h : l.length ≠ 0) (h' : ¬ 50 < l.length) (hk : ¬ tmOk l within) : tmF l within = 1 := by rw [tmF, if_neg h, if_neg h', if_neg hk]
/-- What Agreed hands back: the agreed time or -1. -/
def agR (l : List Int) (within : Int) : Int := if tmF l within = 0 then agS (sorted l) within else -1
end Go.Proofs.YtlnencloodlnbaaDoor
