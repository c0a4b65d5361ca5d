/- Texts of this seat, laid together: Hp. -/
import Derived.Test.YtapjahbflhingaaGreatDoorBu04
/- Plain laws of histories: the times of segments, rows, the least sums worked out from the end. No program in sight. -/
namespace Go.Proofs.YtapjahbflhingaaGreatDoor
set_option linter.unusedVariables false
set_option linter.unusedSimpArgs false

/-- The split before. -/
def pvA (l : List Int) (k : Nat) : Int := if k = 0 then 0 else l.getD (k - 1) 0
/-- One can be at the end of so many segments. -/
def goodA (l : List Int) (k : Nat) : Prop := k = 0 ∨ (k ≤ l.length ∧ l.getD (k - 1) 0 ≠ 0)
instance (l : List Int) (k : Nat) : Decidable (goodA l k) := by unfold goodA; infer_instance
/-- The first split from a place on, within the first j, that is known: its place; j if there is none. -/
def nxA (l : List Int) (k : Nat) : Nat → Nat
  | 0 => 0
  | j + 1 => if nxA l k j < j then nxA l k j else if k ≤ j ∧ l.getD j 0 ≠ 0 then j else j + 1
theorem nxA_le (l : List Int) (k j : Nat) : nxA l k j ≤ j := by
  induction j with
  | zero => exact Nat.le_refl _
  | succ j ih => simp only [nxA]; split; omega; split <;> omega
theorem nxA_spec (l : List Int) (k j : Nat) (h : nxA l k j < j) : k ≤ nxA l k j ∧ l.getD (nxA l k j) 0 ≠ 0 ∧ ∀ i, k ≤ i → i < nxA l k j → l.getD i 0 = 0 := by
  induction j with
  | zero => omega
  | succ j ih =>
    by_cases h1 : nxA l k j < j
    · have e : nxA l k (j + 1) = nxA l k j := by simp [nxA, h1]
      rw [e]; exact ih h1
    · have e0 : nxA l k j = j := by have := nxA_le l k j; omega
      have hz : ∀ i, k ≤ i → i < j → l.getD i 0 = 0 := by
        clear ih h h1
        induction j with
        | zero => intro i _ h; omega
        | succ j ih2 =>
          have h2 : ¬ nxA l k j < j := fun h2 => by simp only [nxA, h2, if_true] at e0; omega
          have e1 : nxA l k j = j := by have := nxA_le l k j; omega
          have h3 : ¬ (k ≤ j ∧ l.getD j 0 ≠ 0) := fun h3 => by simp only [nxA, h2, if_false, if_pos h3] at e0; omega
          intro i hk hi
          rcases Nat.lt_or_ge i j with h4 | h4
          · exact ih2 e1 i hk h4
          · have : i = j := by omega
            subst this
            rcases Int.decEq (l.getD i 0) 0 with h5 | h5
            · exact absurd ⟨hk, h5⟩ h3
            · exact h5
      by_cases h2 : k ≤ j ∧ l.getD j 0 ≠ 0
      · have e : nxA l k (j + 1) = j := by simp only [nxA, h1, if_false]; rw [if_pos h2]
        rw [e]
        exact ⟨h2.1, h2.2, hz⟩
      · have e : nxA l k (j + 1) = j + 1 := by simp only [nxA, h1, if_false]; rw [if_neg h2]
        omega
/-- The steps of the first j splits that begin at k. -/
theorem stS_from (l : List Int) (k : Nat) : ∀ j, j ≤ l.length →
    ((stS l j).1 = (k : Int) ↔ (goodA l k ∧ k ≤ j ∧ nxA l k j = j)) ∧ (∀ f : Nat, (stS l j).1 = (f : Int) → (stS l j).2.1 = pvA l f) ∧ 0 ≤ (stS l j).1 ∧ (stS l j).1 ≤ j ∧
    (stS l j).2.2.filter (fun s => decide (s.1 = (k : Int))) = if goodA l k ∧ nxA l k j < j then [((k : Int), (nxA l k j : Int) + 1, l.getD (nxA l k j) 0 - pvA l k)] else [] := by
  intro j
  induction j with
  | zero =>
    intro _
    refine ⟨⟨fun h => ?_, fun h => ?_⟩, fun f h => ?_, Int.le_refl _, Int.le_refl _, ?_⟩
    · have : k = 0 := by have : ((0 : Int)) = (k : Int) := h; omega
      subst this; exact ⟨.inl rfl, Nat.le_refl _, rfl⟩
    · have : k = 0 := by omega
      subst this; rfl
    · have : f = 0 := by have : ((0 : Int)) = (f : Int) := h; omega
      subst this; rfl
    · rw [if_neg (fun h => Nat.not_lt_zero _ h.2)]; rfl
  | succ j ih =>
    intro hj
    obtain ⟨i1, i2, i3, i4, i5⟩ := ih (by omega)
    have hlt : j < l.length := by omega
    have e : l.getD j 0 = l[j] := by rw [List.getD_eq_getElem?_getD, List.getElem?_eq_getElem hlt]; rfl
    have hle := nxA_le l k j
    by_cases h0 : l[j] = 0
    · rw [stS_no l j hlt h0]
      have h0' : ¬ l.getD j 0 ≠ 0 := by rw [e]; exact fun h => h h0
      by_cases hn : nxA l k j < j
      · have en : nxA l k (j + 1) = nxA l k j := by simp [nxA, hn]
        rw [en]
        refine ⟨⟨fun h => ?_, fun h => ?_⟩, i2, i3, by omega, ?_⟩
        · have := i1.1 h; omega
        · omega
        · rw [i5]
          by_cases hg : goodA l k
          · rw [if_pos ⟨hg, hn⟩, if_pos ⟨hg, by omega⟩]
          · rw [if_neg (fun h => hg h.1), if_neg (fun h => hg h.1)]
      · have en : nxA l k (j + 1) = j + 1 := by simp only [nxA, hn, if_false]; rw [if_neg (fun h => h0' h.2)]
        have en0 : nxA l k j = j := by omega
        rw [en]
        refine ⟨⟨fun h => ?_, fun h => ?_⟩, i2, i3, by omega, ?_⟩
        · have := i1.1 h; exact ⟨this.1, by omega, rfl⟩
        · obtain ⟨hg, hk, _⟩ := h
          refine i1.2 ⟨hg, ?_, en0⟩
          rcases Nat.lt_or_ge j k with h1 | h1
          · have : k = j + 1 := by omega
            subst this
            rcases hg with h2 | ⟨_, h2⟩
            · omega
            · exact absurd h2 (by simpa using h0')
          · exact h1
        · rw [i5, if_neg (fun h => hn h.2), if_neg (fun h => Nat.lt_irrefl _ h.2)]
    · rw [stS_yes l j hlt h0]
      have h0' : l.getD j 0 ≠ 0 := by rw [e]; exact h0
      refine ⟨⟨fun h => ?_, fun h => ?_⟩, fun f h => ?_, by simp only []; omega, by simp only []; omega, ?_⟩
      · have hk : k = j + 1 := by simp only [] at h; omega
        subst hk
        refine ⟨.inr ⟨by omega, by simpa using h0'⟩, Nat.le_refl _, ?_⟩
        have : ¬ nxA l (j + 1) j < j := fun h1 => by have := (nxA_spec l (j + 1) j h1).1; omega
        simp only [nxA, this, if_false]
        rw [if_neg (by omega)]
      · obtain ⟨hg, hk, hn⟩ := h
        simp only []
        rcases Nat.lt_or_ge j k with h1 | h1
        · omega
        · exfalso
          by_cases h2 : nxA l k j < j
          · simp only [nxA, h2, if_true] at hn; omega
          · simp only [nxA, h2, if_false, if_pos (And.intro h1 h0')] at hn; omega
      · have hf : f = j + 1 := by simp only [] at h; omega
        subst hf
        show l[j] = pvA l (j + 1)
        unfold pvA
        rw [if_neg (by omega), Nat.add_sub_cancel, e]
      · simp only [List.filter_append, i5]
        by_cases hn : nxA l k j < j
        · have en : nxA l k (j + 1) = nxA l k j := by simp [nxA, hn]
          rw [en]
          have hne : ¬ (stS l j).1 = (k : Int) := fun h => by have := i1.1 h; omega
          have : ([((stS l j).1, (j : Int) + 1, l[j] - (stS l j).2.1)] : List Stp).filter (fun s => decide (s.1 = (k : Int))) = [] := by simp [hne]
          rw [this, List.append_nil]
          by_cases hg : goodA l k
          · rw [if_pos ⟨hg, hn⟩, if_pos ⟨hg, by omega⟩]
          · rw [if_neg (fun h => hg h.1), if_neg (fun h => hg h.1)]
        · have en0 : nxA l k j = j := by omega
          rw [if_neg (fun h => hn h.2), List.nil_append]
          by_cases hf : (stS l j).1 = (k : Int)
          · obtain ⟨hg, hk, _⟩ := i1.1 hf
            have en : nxA l k (j + 1) = j := by simp only [nxA, hn, if_false, if_pos (And.intro hk h0')]
            rw [en, if_pos ⟨hg, by omega⟩, i2 k hf, e]
            simp [hf]
          · have hnk : ¬ (goodA l k ∧ k ≤ j) := fun h => hf (i1.2 ⟨h.1, h.2, en0⟩)
            have : ([((stS l j).1, (j : Int) + 1, l[j] - (stS l j).2.1)] : List Stp).filter (fun s => decide (s.1 = (k : Int))) = [] := by simp [hf]
            rw [this, if_neg]
            rintro ⟨hg, h1⟩
            have := (nxA_spec l k (j + 1) h1).1
            exact hnk ⟨hg, by omega⟩
/-- What one attempt adds to the sums from a place on. -/
def candA (V : Nat → Int) (l : List Int) (k : Nat) : List Int :=
  if goodA l k ∧ nxA l k l.length < l.length ∧ 0 ≤ V (nxA l k l.length + 1) then [l.getD (nxA l k l.length) 0 - pvA l k + V (nxA l k l.length + 1)] else []
theorem cands_app (V : Nat → Int) (a b : List Stp) (k : Nat) : cands V (a ++ b) k = cands V a k ++ cands V b k := by unfold cands; rw [List.filter_append, List.map_append]
theorem cands_of (V : Nat → Int) (l : List Int) (k : Nat) : cands V (stepsOf l) k = candA V l k := by
  have h := (stS_from l k l.length (Nat.le_refl _)).2.2.2.2
  have e : cands V (stepsOf l) k = (((stepsOf l).filter fun s => decide (s.1 = (k : Int))).filter fun s => decide (0 ≤ V s.2.1.toNat)).map fun s => s.2.2 + V s.2.1.toNat := by
    unfold cands
    rw [List.filter_filter]
    congr 1
    refine List.filter_congr fun s _ => ?_
    rw [Bool.and_comm]
  rw [e]
  unfold stepsOf
  rw [h]
  unfold candA
  by_cases h1 : goodA l k ∧ nxA l k l.length < l.length
  · rw [if_pos h1]
    have e2 : (((nxA l k l.length : Nat) : Int) + 1).toNat = nxA l k l.length + 1 := by omega
    by_cases h2 : 0 ≤ V (nxA l k l.length + 1)
    · rw [if_pos ⟨h1.1, h1.2, h2⟩]
      simp [e2, h2]
    · rw [if_neg (fun h => h2 h.2.2)]
      simp [e2, h2]
  · rw [if_neg h1, if_neg (fun h => h1 ⟨h.1, h.2.1⟩)]
    rfl
theorem cands_A (V : Nat → Int) (atts : List Att) (k : Nat) : cands V (stepsA atts) k = atts.flatMap fun a => candA V a.2 k := by
  induction atts with
  | nil => rfl
  | cons a atts ih =>
    have : stepsA (a :: atts) = stepsOf a.2 ++ stepsA atts := by simp [stepsA]
    rw [this, cands_app, cands_of, ih]
    simp
end Go.Proofs.YtapjahbflhingaaGreatDoor
