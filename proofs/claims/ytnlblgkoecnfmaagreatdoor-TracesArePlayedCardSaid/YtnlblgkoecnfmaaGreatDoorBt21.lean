/- Texts of this seat, laid together: Fl FlA. -/
import Derived.Sort.LotA
import Derived.Test.YtnlblgkoecnfmaaGreatDoorBt04
import Derived.Test.YtnlblgkoecnfmaaGreatDoorBt00
/- Plain laws of what no hand can do: the flaws of an input in the order of frames, reasons and buttons. No program in sight. -/
namespace Go.Proofs.YtnlblgkoecnfmaaGreatDoor
set_option linter.unusedVariables false
set_option linter.unusedSimpArgs false
open Go.RowKit

/-- A flaw: its frame, why, its button. -/
abbrev Flw := Int × Int × Int
def allB (x m : Int) : Bool := bits .and .i64 x m == m
/-- Two buttons are held at once, from this frame on. -/
def bothS (xs : List Int) (m : Int) (i : Nat) : Bool := allB (heldL xs i) m && !allB (heldL xs ((i : Int) - 1)) m
def bothL (xs : List Int) (m b : Int) (k : Nat) : List Flw := (List.range k).flatMap fun i : Nat => if bothS xs m i = true then [((i : Int), 1, b)] else []
theorem bothL_succ (xs : List Int) (m b : Int) (k : Nat) : bothL xs m b (k + 1) = bothL xs m b k ++ if bothS xs m k = true then [((k : Int), 1, b)] else [] := by simp [bothL, List.range_succ]
theorem bothL_len (xs : List Int) (m b : Int) (k : Nat) : (bothL xs m b k).length ≤ k := by
  induction k with
  | zero => simp [bothL]
  | succ k ih => rw [bothL_succ, List.length_append]; split <;> simp <;> omega

/-- How long a button is held from a frame on. -/
def IsLong (xs : List Int) (b : Int) (i l : Nat) : Prop := (∀ j, j < l → hasB (heldL xs ((i + j : Nat) : Int)) b = true) ∧ hasB (heldL xs ((i + l : Nat) : Int)) b = false
theorem isLong_ex (xs : List Int) (b : Int) (i : Nat) : ∃ l, IsLong xs b i l := by
  have h : ∀ m, (∀ j, j < m → hasB (heldL xs ((i + j : Nat) : Int)) b = true) ∨ ∃ l, IsLong xs b i l := by
    intro m
    induction m with
    | zero => exact Or.inl fun j hj => absurd hj (by omega)
    | succ m ih =>
      rcases ih with h | h
      · cases hb : hasB (heldL xs ((i + m : Nat) : Int)) b with
        | false => exact Or.inr ⟨m, h, hb⟩
        | true =>
          refine Or.inl fun j hj => ?_
          rcases Nat.lt_or_ge j m with h1 | h1
          · exact h j h1
          · have : j = m := by omega
            subst this
            exact hb
      · exact Or.inr h
  rcases h (xs.length + 1) with h | h
  · have := h xs.length (by omega)
    rw [heldL_out xs _ (by omega), hasB_zero] at this
    cases this
  · exact h
theorem isLong_one {xs : List Int} {b : Int} {i l m : Nat} (h : IsLong xs b i l) (k : IsLong xs b i m) : l = m := by
  rcases Nat.lt_trichotomy l m with h1 | h1 | h1
  · have := k.1 l h1; rw [h.2] at this; cases this
  · exact h1
  · have := h.1 m h1; rw [k.2] at this; cases this
noncomputable def holdN (xs : List Int) (b : Int) (i : Nat) : Nat := Classical.choose (isLong_ex xs b i)
theorem holdN_is (xs : List Int) (b : Int) (i : Nat) : IsLong xs b i (holdN xs b i) := Classical.choose_spec (isLong_ex xs b i)
theorem holdN_eq {xs : List Int} {b : Int} {i l : Nat} (h : IsLong xs b i l) : holdN xs b i = l := isLong_one (holdN_is xs b i) h
theorem holdN_le_of {xs : List Int} {b : Int} {i j : Nat} (hj : i ≤ j) (h : hasB (heldL xs (j : Int)) b = false) : holdN xs b i ≤ j - i := by
  rcases Nat.lt_or_ge (j - i) (holdN xs b i) with h1 | h1
  · have := (holdN_is xs b i).1 (j - i) h1
    rw [show i + (j - i) = j by omega, h] at this; cases this
  · exact h1
theorem holdN_ge_of {xs : List Int} {b : Int} {i j : Nat} (h : ∀ t, i ≤ t → t < j → hasB (heldL xs (t : Int)) b = true) : j - i ≤ holdN xs b i := by
  rcases Nat.lt_or_ge (holdN xs b i) (j - i) with h1 | h1
  · have := (holdN_is xs b i).2
    rw [h _ (by omega) (by omega)] at this; cases this
  · exact h1
theorem holdN_len (xs : List Int) (b : Int) (i : Nat) : holdN xs b i ≤ xs.length := by
  rcases Nat.lt_or_ge xs.length i with h | h
  · have := holdN_le_of (xs := xs) (b := b) (i := i) (j := i) (Nat.le_refl _) (by rw [heldL_out xs _ (by omega), hasB_zero]); omega
  · have := holdN_le_of (xs := xs) (b := b) (i := i) (j := xs.length) h (by rw [heldL_out xs _ (by omega), hasB_zero]); omega

/-- The frames in which a button is pressed. -/
def posM (xs : List Int) (b : Int) (k : Nat) : List Nat := (List.range k).filter fun i : Nat => pressB xs b (i : Int)
theorem posM_succ (xs : List Int) (b : Int) (k : Nat) : posM xs b (k + 1) = posM xs b k ++ if pressB xs b (k : Int) = true then [k] else [] := by
  unfold posM
  rw [List.range_succ, List.filter_append]
  by_cases h : pressB xs b (k : Int) = true <;> simp [h]
theorem posM_lt {xs : List Int} {b : Int} {k i : Nat} (h : i ∈ posM xs b k) : i < k := by simpa using (List.mem_filter.1 h).1
theorem posM_press {xs : List Int} {b : Int} {k i : Nat} (h : i ∈ posM xs b k) : pressB xs b (i : Int) = true := (List.mem_filter.1 h).2
theorem posM_up (xs : List Int) (b : Int) (k : Nat) : (posM xs b k).Pairwise (· < ·) := List.Pairwise.sublist List.filter_sublist List.pairwise_lt_range
theorem pressB_iff (xs : List Int) (b : Int) (i : Int) : pressB xs b i = true ↔ hasB (heldL xs i) b = true ∧ hasB (heldL xs (i - 1)) b = false := by simp [pressB]
theorem posM_last (xs : List Int) (b : Int) (k : Nat) (h : hasB (heldL xs ((k : Int) - 1)) b = true) : ∃ q p, posM xs b k = q ++ [p] ∧ p < k ∧ ∀ t, p ≤ t → t < k → hasB (heldL xs (t : Int)) b = true := by
  induction k with
  | zero => rw [heldL_out xs _ (by omega), hasB_zero] at h; cases h
  | succ k ih =>
    have e : (((k + 1 : Nat) : Int) - 1) = (k : Int) := by omega
    rw [e] at h
    rw [posM_succ]
    cases hp : hasB (heldL xs ((k : Int) - 1)) b with
    | false =>
      have : pressB xs b (k : Int) = true := (pressB_iff _ _ _).2 ⟨h, hp⟩
      rw [if_pos this]
      refine ⟨_, k, rfl, by omega, fun t h1 h2 => ?_⟩
      have : t = k := by omega
      subst this; exact h
    | true =>
      have : ¬ pressB xs b (k : Int) = true := fun hh => by have := ((pressB_iff _ _ _).1 hh).2; rw [hp] at this; cases this
      rw [if_neg this, List.append_nil]
      obtain ⟨q, p, e1, e2, e3⟩ := ih hp
      refine ⟨q, p, e1, by omega, fun t h1 h2 => ?_⟩
      rcases Nat.lt_or_ge t k with h3 | h3
      · exact e3 t h1 h3
      · have : t = k := by omega
        subst this; exact h

/-- What holds hands back: each press, and how long it is held. -/
noncomputable def hldK (xs : List Int) (b : Int) (k i : Nat) : Int × Int := ((i : Int), ((min (holdN xs b i) (k - i) : Nat) : Int))
theorem hldK_same {xs : List Int} {b : Int} {k i j : Nat} (hi : i ≤ j) (hj : j ≤ k) (h : hasB (heldL xs (j : Int)) b = false) : hldK xs b (k + 1) i = hldK xs b k i := by
  have := holdN_le_of hi h
  unfold hldK
  rw [Nat.min_eq_left (by omega), Nat.min_eq_left (by omega)]
theorem map_same {α β : Type} {l : List α} {f g : α → β} (h : ∀ x ∈ l, f x = g x) : l.map f = l.map g := List.map_congr_left h
theorem holdsM_pos' (xs : List Int) (b : Int) (k : Nat) : holdsM xs b k = (posM xs b k).map (hldK xs b k) := by
  induction k with
  | zero => simp [holdsM, posM]
  | succ k ih =>
    rw [holdsM_succ, posM_succ]
    unfold hstep
    cases h1 : hasB (heldL xs (k : Int)) b with
    | false =>
      have : ¬ pressB xs b (k : Int) = true := fun hh => by have := ((pressB_iff _ _ _).1 hh).1; rw [h1] at this; cases this
      rw [if_neg this, List.append_nil, ih]
      simp only [Bool.false_eq_true, if_false]
      exact map_same fun i hi => (hldK_same (Nat.le_of_lt (posM_lt hi)) (Nat.le_refl _) h1).symm
    | true =>
      cases h2 : hasB (heldL xs ((k : Int) - 1)) b with
      | false =>
        have hp : pressB xs b (k : Int) = true := (pressB_iff _ _ _).2 ⟨h1, h2⟩
        rw [if_pos hp, ih, List.map_append]
        simp only [Bool.false_eq_true, if_false, if_true]
        have e1 : [hldK xs b (k + 1) k] = [((k : Int), 1)] := by
          have h5 : ∀ t, k ≤ t → t < k + 1 → hasB (heldL xs (t : Int)) b = true := by
            intro t h3 h4
            have : t = k := by omega
            subst this
            exact h1
          have := holdN_ge_of h5
          unfold hldK
          rw [Nat.min_eq_right (by omega), show k + 1 - k = 1 by omega]; rfl
        rw [List.map_cons, List.map_nil, e1]
        congr 1
        refine map_same fun i hi => ?_
        have hik := posM_lt hi
        have e : ((k - 1 : Nat) : Int) = (k : Int) - 1 := by omega
        exact (hldK_same (j := k - 1) (by omega) (by omega) (by rw [e]; exact h2)).symm
      | true =>
        have hp : ¬ pressB xs b (k : Int) = true := fun hh => by have := ((pressB_iff _ _ _).1 hh).2; rw [h2] at this; cases this
        rw [if_neg hp, List.append_nil]
        simp only [if_true]
        obtain ⟨q, p, e1, e2, e3⟩ := posM_last xs b k h2
        have hup := posM_up xs b k
        have hmem : ∀ i ∈ posM xs b k, i < k := fun i hi => posM_lt hi
        have hpp : pressB xs b (p : Int) = true := posM_press (k := k) (by rw [e1]; simp)
        rw [ih]
        rw [e1] at hup ⊢
        have hl : (List.map (hldK xs b k) (q ++ [p])).length - 1 = q.length := by simp
        rw [hl]
        have hg : (List.map (hldK xs b k) (q ++ [p])).getD q.length (0, 0) = hldK xs b k p := by simp [List.getD_eq_getElem?_getD]
        rw [hg, List.map_append, List.map_append]
        simp only [List.map_cons, List.map_nil]
        rw [List.set_append_right _ _ (by simp)]
        simp only [List.length_map, Nat.sub_self, List.set_cons_zero]
        have hlong := holdN_ge_of (xs := xs) (b := b) (i := p) (j := k + 1) (fun t h3 h4 => by
          rcases Nat.lt_or_ge t k with h5 | h5
          · exact e3 t h3 h5
          · have : t = k := by omega
            subst this; exact h1)
        congr 1
        · refine map_same fun i hi => ?_
          have hip : i < p := (List.pairwise_append.1 hup).2.2 i hi p (by simp)
          have e : ((p - 1 : Nat) : Int) = (p : Int) - 1 := by omega
          exact (hldK_same (j := p - 1) (by omega) (by omega) (by rw [e]; exact ((pressB_iff _ _ _).1 hpp).2)).symm
        · unfold hldK
          rw [Nat.min_eq_right (by omega), Nat.min_eq_right (by omega)]
          congr 2
          simp only
          omega
theorem hldK_full (xs : List Int) (b : Int) (i : Nat) (hi : i ≤ xs.length) : hldK xs b xs.length i = ((i : Int), (holdN xs b i : Int)) := by
  have := holdN_le_of (xs := xs) (b := b) (i := i) (j := xs.length) hi (by rw [heldL_out xs _ (by omega), hasB_zero])
  unfold hldK
  rw [Nat.min_eq_left this]
theorem holdsM_full (xs : List Int) (b : Int) : holdsM xs b xs.length = (posM xs b xs.length).map fun i : Nat => ((i : Int), (holdN xs b i : Int)) := by
  rw [holdsM_pos']
  exact map_same fun i hi => hldK_full xs b i (Nat.le_of_lt (posM_lt hi))

/-- How many presses lie in the second that ends with a frame. -/
def manyM (xs : List Int) (b : Int) (i : Nat) : Nat := ((List.range (i + 1)).filter fun f : Nat => decide (i ≤ f + 59) && pressB xs b (f : Int)).length
theorem manyM_pos (xs : List Int) (b : Int) (i n : Nat) (hi : i < n) : manyM xs b i = ((posM xs b n).filter fun f => decide (i ≤ f + 59) && decide (f ≤ i)).length := by
  unfold manyM posM
  rw [List.filter_filter]
  have e : List.range n = List.range (i + 1) ++ List.range' (i + 1) (n - (i + 1)) := by
    have h := List.range'_append_1 (s := 0) (m := i + 1) (n := n - (i + 1))
    rw [Nat.zero_add, show i + 1 + (n - (i + 1)) = n by omega] at h
    rw [List.range_eq_range', List.range_eq_range', h]
  rw [e, List.filter_append, List.length_append]
  have z : (List.range' (i + 1) (n - (i + 1))).filter (fun f => (decide (i ≤ f + 59) && decide (f ≤ i)) && pressB xs b (f : Int)) = [] := by
    rw [List.filter_eq_nil_iff]
    intro f hf
    have := (List.mem_range'_1.1 hf).1
    simp; omega
  rw [z]
  simp only [List.length_nil, Nat.add_zero]
  congr 1
  refine List.filter_congr fun f hf => ?_
  have : f ≤ i := by have := List.mem_range.1 hf; omega
  simp [this]
/-- In a row that goes up, what is within the last second are the last ones. -/
theorem filter_window (l : List Nat) (hup : l.Pairwise (· < ·)) (k f : Nat) (hk : k < l.length) (hf : f ≤ k) (h1 : ∀ j (hj : j < l.length), j < f → l[j] + 59 < l[k]) (h2 : ∀ (hj : f < l.length), l[k] ≤ l[f] + 59) :
    (l.filter fun x => decide (l[k] ≤ x + 59) && decide (x ≤ l[k])).length = k + 1 - f := by
  have hget := List.pairwise_iff_getElem.1 hup
  have e : l = l.take f ++ ((l.drop f).take (k + 1 - f) ++ l.drop (k + 1)) := by
    have : (l.drop f).drop (k + 1 - f) = l.drop (k + 1) := by rw [List.drop_drop]; congr 1; omega
    rw [← this, List.take_append_drop, List.take_append_drop]
  have a1 : (l.take f).filter (fun x => decide (l[k] ≤ x + 59) && decide (x ≤ l[k])) = [] := by
    rw [List.filter_eq_nil_iff]
    intro x hx
    obtain ⟨j, hj, rfl⟩ := List.mem_iff_getElem.1 hx
    simp only [List.length_take] at hj
    rw [List.getElem_take]
    have := h1 j (by omega) (by omega)
    simp; omega
  have a3 : (l.drop (k + 1)).filter (fun x => decide (l[k] ≤ x + 59) && decide (x ≤ l[k])) = [] := by
    rw [List.filter_eq_nil_iff]
    intro x hx
    obtain ⟨j, hj, rfl⟩ := List.mem_iff_getElem.1 hx
    simp only [List.length_drop] at hj
    rw [List.getElem_drop]
    have := hget k (k + 1 + j) hk (by omega) (by omega)
    simp; omega
  have a2 : ((l.drop f).take (k + 1 - f)).filter (fun x => decide (l[k] ≤ x + 59) && decide (x ≤ l[k])) = (l.drop f).take (k + 1 - f) := by
    rw [List.filter_eq_self]
    intro x hx
    obtain ⟨j, hj, rfl⟩ := List.mem_iff_getElem.1 hx
    simp only [List.length_take, List.length_drop] at hj
    rw [List.getElem_take, List.getElem_drop]
    have g1 : l[f] ≤ l[f + j] := by
      rcases Nat.eq_zero_or_pos j with h | h
      · subst h; exact Nat.le_refl _
      · exact Nat.le_of_lt (hget f (f + j) (by omega) (by omega) (by omega))
    have g2 : l[f + j] ≤ l[k] := by
      rcases Nat.lt_or_ge (f + j) k with h | h
      · exact Nat.le_of_lt (hget (f + j) k (by omega) hk h)
      · have : f + j = k := by omega
        simp only [this]; exact Nat.le_refl _
    have := h2 (by omega)
    simp; omega
  have el : (l.filter fun x => decide (l[k] ≤ x + 59) && decide (x ≤ l[k])) = (l.drop f).take (k + 1 - f) := by
    generalize hP : (fun x => decide (l[k] ≤ x + 59) && decide (x ≤ l[k])) = P at a1 a2 a3 ⊢
    have h : l.filter P = (l.take f ++ ((l.drop f).take (k + 1 - f) ++ l.drop (k + 1))).filter P := congrArg _ e
    rw [h, List.filter_append, List.filter_append, a1, a2, a3, List.nil_append, List.append_nil]
  rw [el]
  simp; omega

/-- The flaws of one press. -/
noncomputable def shortF (xs : List Int) (short b : Int) (i : Nat) : List Flw := if pressB xs b (i : Int) = true ∧ (holdN xs b i : Int) < short then [((i : Int), 2, b)] else []
noncomputable def oftenF (xs : List Int) (most b : Int) (i : Nat) : List Flw := if pressB xs b (i : Int) = true ∧ most < (manyM xs b i : Int) then [((i : Int), 3, b)] else []
noncomputable def pressF (xs : List Int) (most short b : Int) (l : List Nat) : List Flw := l.flatMap fun i => shortF xs short b i ++ oftenF xs most b i
theorem shortF_len (xs : List Int) (short b : Int) (i : Nat) : (shortF xs short b i).length ≤ 1 := by unfold shortF; split <;> simp
theorem oftenF_len (xs : List Int) (short b : Int) (i : Nat) : (oftenF xs short b i).length ≤ 1 := by unfold oftenF; split <;> simp
theorem pressF_len (xs : List Int) (most short b : Int) (l : List Nat) : (pressF xs most short b l).length ≤ 2 * l.length := by
  induction l with
  | nil => simp [pressF]
  | cons i l ih =>
    have := shortF_len xs short b i
    have := oftenF_len xs most b i
    simp only [pressF, List.flatMap_cons, List.length_append, List.length_cons] at ih ⊢
    omega
theorem pressF_take (xs : List Int) (most short b : Int) (l : List Nat) (k : Nat) (hk : k < l.length) : pressF xs most short b (l.take (k + 1)) = pressF xs most short b (l.take k) ++ (shortF xs short b l[k] ++ oftenF xs most b l[k]) := by
  unfold pressF
  rw [List.take_succ_eq_append_getElem hk, List.flatMap_append]; simp
theorem pressF_all (xs : List Int) (most short b : Int) (n : Nat) : pressF xs most short b (posM xs b n) = (List.range n).flatMap fun i => shortF xs short b i ++ oftenF xs most b i := by
  unfold pressF posM
  induction (List.range n) with
  | nil => rfl
  | cons i l ih =>
    rw [List.flatMap_cons, ← ih]
    by_cases h : pressB xs b (i : Int) = true
    · rw [List.filter_cons_of_pos (p := fun i : Nat => pressB xs b (i : Int)) h, List.flatMap_cons]
    · rw [List.filter_cons_of_neg (p := fun i : Nat => pressB xs b (i : Int)) h]
      have a : shortF xs short b i = [] := by simp [shortF, h]
      have c : oftenF xs most b i = [] := by simp [oftenF, h]
      rw [a, c]; rfl

/-- The reference's flaws of a frame, and of all. -/
def bothF (xs : List Int) (both : Bool) (m b : Int) (i : Nat) : List Flw := if both = false ∧ bothS xs m i = true then [((i : Int), 1, b)] else []
noncomputable def flawsAt (xs : List Int) (most short : Int) (both : Bool) (i : Nat) : List Flw := (bothF xs both 3 1 i ++ bothF xs both 12 4 i) ++ (btns.flatMap (fun b => shortF xs short b i) ++ btns.flatMap (fun b => oftenF xs most b i))
noncomputable def flawsM (xs : List Int) (most short : Int) (both : Bool) (n : Nat) : List Flw := (List.range n).flatMap (flawsAt xs most short both)
theorem flawsM_succ (xs : List Int) (most short : Int) (both : Bool) (n : Nat) : flawsM xs most short both (n + 1) = flawsM xs most short both n ++ flawsAt xs most short both n := by simp [flawsM, List.range_succ]
/-- The code's flaws before they are sorted. -/
noncomputable def flawsP (xs : List Int) (most short : Int) (both : Bool) : List Flw :=
  (if both = true then [] else bothL xs 3 1 xs.length ++ bothL xs 12 4 xs.length) ++ btns.flatMap fun b => pressF xs most short b (posM xs b xs.length)
theorem flatMap_two {α β : Type} (l : List α) (f g : α → List β) : (l.flatMap fun x => f x ++ g x).Perm (l.flatMap f ++ l.flatMap g) := by
  induction l with
  | nil => simp
  | cons x l ih =>
    simp only [List.flatMap_cons]
    refine ((List.Perm.append_left _ ih).trans ?_)
    simp only [List.append_assoc]
    refine List.Perm.append_left _ ?_
    rw [← List.append_assoc, ← List.append_assoc]
    exact List.Perm.append_right _ List.perm_append_comm
theorem flatMap_swap {α β γ : Type} (l : List α) (m : List β) (f : α → β → List γ) : (l.flatMap fun x => m.flatMap (f x)).Perm (m.flatMap fun y => l.flatMap fun x => f x y) := by
  induction m with
  | nil => simp
  | cons y m ih =>
    simp only [List.flatMap_cons]
    exact (flatMap_two l (fun x => f x y) (fun x => m.flatMap (f x))).trans (List.Perm.append_left _ ih)
theorem flatMap_none {α β : Type} (l : List α) (f : α → List β) (h : ∀ x ∈ l, f x = []) : l.flatMap f = [] := by simp [List.flatMap_eq_nil_iff]; exact h
theorem flatMap_perm {α β : Type} (l : List α) {f g : α → List β} (h : ∀ x ∈ l, (f x).Perm (g x)) : (l.flatMap f).Perm (l.flatMap g) := by
  induction l with
  | nil => simp
  | cons x l ih =>
    simp only [List.flatMap_cons]
    exact (h x (by simp)).append (ih fun y hy => h y (by simp [hy]))
theorem flaws_perm (xs : List Int) (most short : Int) (both : Bool) : (flawsM xs most short both xs.length).Perm (flawsP xs most short both) := by
  unfold flawsM flawsP flawsAt
  refine (flatMap_two _ _ _).trans ?_
  have e1 : ((List.range xs.length).flatMap fun i => bothF xs both 3 1 i ++ bothF xs both 12 4 i).Perm (if both = true then [] else bothL xs 3 1 xs.length ++ bothL xs 12 4 xs.length) := by
    cases both with
    | true => simp [bothF]
    | false =>
      refine (flatMap_two _ _ _).trans ?_
      simp only [Bool.false_eq_true, if_false]
      unfold bothL bothF
      simp
  refine e1.append ?_
  refine (List.Perm.trans ?_ ((flatMap_swap (List.range xs.length) btns fun i b => shortF xs short b i ++ oftenF xs most b i))).trans ?_
  · refine flatMap_perm _ fun i _ => ?_
    exact (flatMap_two btns _ _).symm
  · refine flatMap_perm _ fun b _ => ?_
    rw [pressF_all]

/-- The order of flaws, as slices.Compare tells it. -/
def cmpI (a b : Int) : Int := if a < b then -1 else if b < a then 1 else 0
def cmpF (x y : Flw) : Int := if cmpI x.1 y.1 ≠ 0 then cmpI x.1 y.1 else if cmpI x.2.1 y.2.1 ≠ 0 then cmpI x.2.1 y.2.1 else cmpI x.2.2 y.2.2
theorem cmpI_lt (a b : Int) : cmpI a b < 0 ↔ a < b := by unfold cmpI; split <;> (try split) <;> omega
theorem cmpI_eq (a b : Int) : cmpI a b = 0 ↔ a = b := by unfold cmpI; split <;> (try split) <;> omega
theorem cmpF_lt (x y : Flw) : cmpF x y < 0 ↔ x.1 < y.1 ∨ x.1 = y.1 ∧ (x.2.1 < y.2.1 ∨ x.2.1 = y.2.1 ∧ x.2.2 < y.2.2) := by
  have a1 := cmpI_lt x.1 y.1
  have a2 := cmpI_eq x.1 y.1
  have b1 := cmpI_lt x.2.1 y.2.1
  have b2 := cmpI_eq x.2.1 y.2.1
  have c1 := cmpI_lt x.2.2 y.2.2
  unfold cmpF
  split
  · omega
  · split <;> omega
def leF (x y : Flw) : Prop := ¬ cmpF y x < 0
theorem leF_anti {x y : Flw} (h : leF x y) (k : leF y x) : x = y := by
  unfold leF at h k
  rw [cmpF_lt] at h k
  obtain ⟨a, b, c⟩ := x
  obtain ⟨a', b', c'⟩ := y
  simp only at h k
  have : a = a' := by omega
  have : b = b' := by omega
  have : c = c' := by omega
  subst_vars; rfl
theorem flaw_mem_both {xs : List Int} {both : Bool} {m b : Int} {i : Nat} {x : Flw} (h : x ∈ bothF xs both m b i) : x = ((i : Int), 1, b) := by unfold bothF at h; split at h <;> simp at h; exact h
theorem flaw_mem_short {xs : List Int} {s b : Int} {i : Nat} {x : Flw} (h : x ∈ shortF xs s b i) : x = ((i : Int), 2, b) := by unfold shortF at h; split at h <;> simp at h; exact h
theorem flaw_mem_often {xs : List Int} {s b : Int} {i : Nat} {x : Flw} (h : x ∈ oftenF xs s b i) : x = ((i : Int), 3, b) := by unfold oftenF at h; split at h <;> simp at h; exact h
theorem leF_why {i a b c d : Int} (h : a < c) : leF (i, a, b) (i, c, d) := by unfold leF; rw [cmpF_lt]; simp; omega
theorem leF_btn {i a b d : Int} (h : b ≤ d) : leF (i, a, b) (i, a, d) := by unfold leF; rw [cmpF_lt]; simp; omega
theorem btns_up : btns.Pairwise (· < ·) := by decide
theorem pair_btns (f : Int → List Flw) (i a : Int) (h : ∀ b x, x ∈ f b → x = (i, a, b)) (h1 : ∀ b, (f b).length ≤ 1) : (btns.flatMap f).Pairwise leF := by
  rw [List.pairwise_flatMap]
  refine ⟨fun b _ => ?_, ?_⟩
  · have := h1 b
    match hf : f b with
    | [] => exact List.Pairwise.nil
    | [x] => exact List.pairwise_singleton _ _
    | x :: y :: r => rw [hf] at this; simp at this
  · refine List.Pairwise.imp ?_ btns_up
    intro b d hbd x hx y hy
    rw [h b x hx, h d y hy]
    exact leF_btn (Int.le_of_lt hbd)
theorem pair_short {l : List Flw} (h : l.length ≤ 1) : l.Pairwise leF := by
  match l, h with
  | [], _ => exact List.Pairwise.nil
  | [x], _ => exact List.pairwise_singleton _ _
  | x :: y :: r, h => simp at h
theorem bothF_len (xs : List Int) (both : Bool) (m b : Int) (i : Nat) : (bothF xs both m b i).length ≤ 1 := by unfold bothF; split <;> simp
theorem flawsAt_frame {xs : List Int} {most short : Int} {both : Bool} {i : Nat} {x : Flw} (h : x ∈ flawsAt xs most short both i) : x.1 = (i : Int) := by
  unfold flawsAt at h
  simp only [List.mem_append, List.mem_flatMap] at h
  rcases h with (h | h) | ⟨b, _, h⟩ | ⟨b, _, h⟩
  · rw [flaw_mem_both h]
  · rw [flaw_mem_both h]
  · rw [flaw_mem_short h]
  · rw [flaw_mem_often h]
theorem flawsAt_up (xs : List Int) (most short : Int) (both : Bool) (i : Nat) : (flawsAt xs most short both i).Pairwise leF := by
  unfold flawsAt
  rw [List.pairwise_append]
  refine ⟨?_, ?_, ?_⟩
  · rw [List.pairwise_append]
    refine ⟨pair_short (bothF_len _ _ _ _ _), pair_short (bothF_len _ _ _ _ _), fun x hx y hy => ?_⟩
    rw [flaw_mem_both hx, flaw_mem_both hy]
    exact leF_btn (by omega)
  · rw [List.pairwise_append]
    refine ⟨pair_btns _ (i : Int) 2 (fun b x hx => flaw_mem_short hx) (fun b => shortF_len _ _ _ _), pair_btns _ (i : Int) 3 (fun b x hx => flaw_mem_often hx) (fun b => oftenF_len _ _ _ _), fun x hx y hy => ?_⟩
    obtain ⟨b, _, hx⟩ := List.mem_flatMap.1 hx
    obtain ⟨d, _, hy⟩ := List.mem_flatMap.1 hy
    rw [flaw_mem_short hx, flaw_mem_often hy]
    exact leF_why (by omega)
  · intro x hx y hy
    have e1 : ∃ b, x = ((i : Int), 1, b) := by
      rcases List.mem_append.1 hx with h | h
      · exact ⟨_, flaw_mem_both h⟩
      · exact ⟨_, flaw_mem_both h⟩
    obtain ⟨b, rfl⟩ := e1
    rcases List.mem_append.1 hy with h | h
    · obtain ⟨d, _, h⟩ := List.mem_flatMap.1 h
      rw [flaw_mem_short h]; exact leF_why (by omega)
    · obtain ⟨d, _, h⟩ := List.mem_flatMap.1 h
      rw [flaw_mem_often h]; exact leF_why (by omega)
theorem flawsM_up (xs : List Int) (most short : Int) (both : Bool) (n : Nat) : (flawsM xs most short both n).Pairwise leF := by
  unfold flawsM
  rw [List.pairwise_flatMap]
  refine ⟨fun i _ => flawsAt_up _ _ _ _ _, ?_⟩
  refine List.Pairwise.imp ?_ (List.pairwise_lt_range (n := n))
  intro i j hij x hx y hy
  have h1 := flawsAt_frame hx
  have h2 := flawsAt_frame hy
  unfold leF
  rw [cmpF_lt]
  omega
/-- ONE SORTED LIST: whatever order sorts the code's flaws, it is the reference's. -/
theorem flaws_sorted {xs : List Int} {most short : Int} {both : Bool} {l : List Flw} (hp : l.Perm (flawsP xs most short both)) (hs : l.Pairwise leF) : l = flawsM xs most short both xs.length :=
  List.Perm.eq_of_pairwise (le := leF) (fun _ _ _ _ h k => leF_anti h k) hs (flawsM_up _ _ _ _ _) (hp.trans (flaws_perm _ _ _ _).symm)
end Go.Proofs.YtnlblgkoecnfmaaGreatDoor
/- The walks of bothFlaws, pressFlaws and of the order of flaws. -/
namespace Go.Proofs.YtnlblgkoecnfmaaGreatDoor
set_option linter.unusedVariables false
set_option linter.unusedSimpArgs false
open Go.RowKit

theorem isNaN_any (x : Int) (w : World) : Calls Tryz.prog 163 #[.int .i64 x] w fun e w' => e = .returned (.bool false) ∧ w = w' := by
  have g : (x != x) = false := by simp
  go_enter Tryz.func163, Tryz.ntmps163
  go_wp2_with fail
  go_ret
  exact ⟨rfl, rfl⟩

theorem cmpInt_any (x y : Int) (w : World) : Calls Tryz.prog 129 #[.int .i64 x, .int .i64 y] w fun e w' => e = .returned (.int .i64 (cmpI x y)) ∧ w = w' := by
  go_enter Tryz.func129, Tryz.ntmps129
  go_wp2_with fail
  refine (isNaN_any _ _).mono ?_
  rintro e w1 ⟨rfl, rfl⟩
  go_wp2_with fail
  refine (isNaN_any _ _).mono ?_
  rintro e w1 ⟨rfl, rfl⟩
  rcases Int.lt_trichotomy x y with h | h | h
  · have HC : Hid (cmpI x y = -1) := Lib.hid (by simp [cmpI, h])
    go_wp2_with fail
    go_ret
    exact ⟨ret_int' HC.out.symm, rfl⟩
  · have HC : Hid (cmpI x y = 0) := Lib.hid (by simp [cmpI, h])
    subst h
    go_wp2_with fail
    go_ret
    exact ⟨ret_int' HC.out.symm, rfl⟩
  · have HC : Hid (cmpI x y = 1) := Lib.hid (by simp [cmpI, h]; omega)
    have d : decide (x < y) = false := by simp; omega
    go_wp2_with fail
    go_ret
    exact ⟨ret_int' HC.out.symm, rfl⟩
end Go.Proofs.YtnlblgkoecnfmaaGreatDoor
