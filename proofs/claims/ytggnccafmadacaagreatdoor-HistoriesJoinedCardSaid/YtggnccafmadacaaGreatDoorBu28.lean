/- Texts of this seat, laid together: Hq Hc. -/
import Derived.IntWalk
import Derived.Test.YtggnccafmadacaaGreatDoorBu04
import Derived.Test.YtggnccafmadacaaGreatDoorBu22
import Derived.Test.YtggnccafmadacaaGreatDoorBu00
import Derived.Test.YtggnccafmadacaaGreatDoorBu01
import Derived.Test.YtggnccafmadacaaGreatDoorBu03
/- Plain laws of histories: the times of segments, their rows, records, where an attempt is, the least sums from the end on. No program in sight. -/
namespace Go.Proofs.YtggnccafmadacaaGreatDoor
set_option linter.unusedVariables false
set_option linter.unusedSimpArgs false


theorem getD_is {l : List Int} {k : Nat} (h : k < l.length) : l.getD k 0 = l[k] := by rw [List.getD_eq_getElem?_getD, List.getElem?_eq_getElem h]; rfl
/-- The time of a segment; 0: not known. -/
def tmA (l : List Int) (k : Nat) : Int := if l.getD k 0 ≠ 0 ∧ goodA l k then l.getD k 0 - pvA l k else 0
def tmL (l : List Int) (j : Nat) : List Int := (List.range j).map (tmA l)
theorem tmL_len (l : List Int) (j : Nat) : (tmL l j).length = j := by simp [tmL]
theorem tmL_snoc (l : List Int) (j : Nat) : tmL l (j + 1) = tmL l j ++ [tmA l j] := by simp [tmL, List.range_succ]
theorem tmL_at (l : List Int) (j i : Nat) (h : i < (tmL l j).length) : (tmL l j)[i] = tmA l i := by simp [tmL]
theorem tmA_zero {l : List Int} {k : Nat} (hk : k < l.length) (h : l[k] = 0) : tmA l k = 0 := by
  unfold tmA; rw [getD_is hk, if_neg (fun x => x.1 h)]
theorem tmA_first {l : List Int} (hk : 0 < l.length) : tmA l 0 = l[0] := by
  unfold tmA
  rw [getD_is hk]
  by_cases h : l[0] = 0
  · rw [if_neg (fun x => x.1 h), h]
  · rw [if_pos ⟨h, .inl rfl⟩]; simp [pvA]
theorem tmA_gap {l : List Int} {k : Nat} (hk : k + 1 < l.length) (h : l[k] = 0) : tmA l (k + 1) = 0 := by
  unfold tmA
  rw [if_neg]
  rintro ⟨_, h1 | ⟨_, h1⟩⟩
  · omega
  · rw [Nat.add_sub_cancel, getD_is (by omega)] at h1; exact h1 h
theorem tmA_diff {l : List Int} {k : Nat} (hk : k + 1 < l.length) (h : l[k] ≠ 0) (h1 : l[k + 1] ≠ 0) : tmA l (k + 1) = l[k + 1] - l[k] := by
  unfold tmA
  rw [getD_is hk, if_pos ⟨h1, .inr ⟨by omega, by rw [Nat.add_sub_cancel, getD_is (by omega)]; exact h⟩⟩]
  unfold pvA
  rw [if_neg (by omega), Nat.add_sub_cancel, getD_is (by omega)]
theorem spl_le {n : Nat} {l : List Int} (h : SplOk n l) {i k : Nat} (hk : k < l.length) (hi : i < k) (h0 : l[k] ≠ 0) : l[i] < l[k] := by
  have h1 := h.up k hk h0
  have h2 : ∀ (m : List Int) (a : Int), a ≤ m.foldl max a ∧ ∀ x ∈ m, x ≤ m.foldl max a := by
    intro m
    induction m with
    | nil => intro a; exact ⟨Int.le_refl _, fun x hx => by cases hx⟩
    | cons y m ih =>
      intro a
      have := ih (max a y)
      refine ⟨by simp only [List.foldl_cons]; omega, fun x hx => ?_⟩
      rcases List.mem_cons.1 hx with rfl | hx
      · simp only [List.foldl_cons]; omega
      · exact this.2 x hx
  have h3 := (h2 (l.take k) 0).2 l[i] (by rw [List.mem_take_iff_getElem]; exact ⟨i, by omega, rfl⟩)
  unfold sgM at h1
  omega
theorem tmA_bd {n : Nat} {l : List Int} (h : SplOk n l) (k : Nat) : 0 ≤ tmA l k ∧ tmA l k ≤ 864000000 := by
  rcases Nat.lt_or_ge k l.length with hk | hk
  · by_cases h0 : l[k] = 0
    · rw [tmA_zero hk h0]; omega
    · have b := h.bd k hk
      rcases k with _ | k
      · rw [tmA_first hk]; exact b
      · by_cases h1 : l[k] = 0
        · rw [tmA_gap hk h1]; omega
        · rw [tmA_diff hk h1 h0]
          have := spl_le h hk (Nat.lt_succ_self k) h0
          have := h.bd k (by omega)
          omega
  · have : tmA l k = 0 := by
      unfold tmA
      rw [if_neg]
      rintro ⟨h1, _⟩
      rw [List.getD_eq_getElem?_getD, List.getElem?_eq_none (by omega)] at h1
      exact h1 rfl
    omega

/-- The known times of a segment, attempt by attempt. -/
def rowA (atts : List Att) (k : Nat) : List Int := atts.flatMap fun a => if k < a.2.length ∧ 0 < tmA a.2 k then [tmA a.2 k] else []
theorem rowA_snoc (atts : List Att) (a : Att) (k : Nat) : rowA (atts ++ [a]) k = rowA atts k ++ if k < a.2.length ∧ 0 < tmA a.2 k then [tmA a.2 k] else [] := by simp [rowA]
theorem rowA_take (atts : List Att) (j k : Nat) (hj : j < atts.length) : rowA (atts.take (j + 1)) k = rowA (atts.take j) k ++ if k < atts[j].2.length ∧ 0 < tmA atts[j].2 k then [tmA atts[j].2 k] else [] := by
  rw [List.take_succ_eq_append_getElem hj, rowA_snoc]
theorem rowA_len (atts : List Att) (k : Nat) : (rowA atts k).length ≤ atts.length := by
  induction atts with
  | nil => simp [rowA]
  | cons a atts ih =>
    have e : rowA (a :: atts) k = (if k < a.2.length ∧ 0 < tmA a.2 k then [tmA a.2 k] else []) ++ rowA atts k := by simp [rowA]
    rw [e, List.length_append, List.length_cons]
    split <;> simp <;> omega
theorem rowA_bd {n : Nat} {atts : List Att} (h : ∀ i (hi : i < atts.length), SplOk n atts[i].2) (k : Nat) : ∀ x ∈ rowA atts k, 0 < x ∧ x ≤ 864000000 := by
  intro x hx
  obtain ⟨a, ha, hx⟩ := List.mem_flatMap.1 hx
  obtain ⟨i, hi, rfl⟩ := List.mem_iff_getElem.1 ha
  split at hx
  · rename_i h1
    simp at hx
    subst hx
    exact ⟨h1.2, (tmA_bd (h i hi) k).2⟩
  · cases hx
/-- What one attempt adds to the rows, after so many of its segments. -/
def rowP (atts : List Att) (l : List Int) (j k : Nat) : List Int := rowA atts k ++ if k < j ∧ k < l.length ∧ 0 < tmA l k then [tmA l k] else []
/-- The least of the known times; 0: none is known. -/
def goldA (atts : List Att) (k : Nat) : Int := (sorted (rowA atts k)).headD 0
def goldL (atts : List Att) (j : Nat) : List Int := (List.range j).map (goldA atts)
theorem goldL_len (atts : List Att) (j : Nat) : (goldL atts j).length = j := by simp [goldL]
theorem goldL_snoc (atts : List Att) (j : Nat) : goldL atts (j + 1) = goldL atts j ++ [goldA atts j] := by simp [goldL, List.range_succ]
theorem goldL_at (atts : List Att) (j i : Nat) (h : i < (goldL atts j).length) : (goldL atts j)[i] = goldA atts i := by simp [goldL]

/-- Where an attempt is; -1: nowhere. -/
def atI (atts : List Att) (no : Int) : Int := match atts.findIdx? (fun a => decide (a.1 = no)) with | some k => (k : Int) | none => -1
theorem atI_none {atts : List Att} {no : Int} (h : ∀ j (hj : j < atts.length), atts[j].1 ≠ no) : atI atts no = -1 := by
  have : atts.findIdx? (fun a => decide (a.1 = no)) = none := by
    rw [List.findIdx?_eq_none_iff]
    intro a ha
    obtain ⟨i, hi, rfl⟩ := List.mem_iff_getElem.1 ha
    simpa using h i hi
  simp [atI, this]
theorem atI_some {atts : List Att} {no : Int} {k : Nat} (hk : k < atts.length) (h : ∀ j (hj : j < atts.length), j < k → atts[j].1 ≠ no) (he : atts[k].1 = no) : atI atts no = k := by
  have : atts.findIdx? (fun a => decide (a.1 = no)) = some k := by
    rw [List.findIdx?_eq_some_iff_getElem]
    exact ⟨hk, by simpa using he, fun j hj => by simpa using h j (by omega) hj⟩
  simp [atI, this]
theorem atI_inv (atts : List Att) (no : Int) : atI atts no = -1 ∨ ∃ k : Nat, ∃ h : k < atts.length, atI atts no = k ∧ atts[k].1 = no := by
  unfold atI
  cases h : atts.findIdx? (fun a => decide (a.1 = no)) with
  | none => exact .inl rfl
  | some k =>
    rw [List.findIdx?_eq_some_iff_getElem] at h
    obtain ⟨h1, h2, _⟩ := h
    exact .inr ⟨k, h1, rfl, by simpa using h2⟩

/-- The least time of the first attempts that are finished (0: none is) and the records. -/
def recK (n : Nat) (atts : List Att) : Nat → Int × List Int
  | 0 => (0, [])
  | k + 1 => if h : k < atts.length then (if atts[k].2.length = n ∧ ((recK n atts k).1 = 0 ∨ lastT atts[k] < (recK n atts k).1) then (lastT atts[k], (recK n atts k).2 ++ [atts[k].1]) else recK n atts k) else recK n atts k
theorem recK_no {n : Nat} {atts : List Att} {k : Nat} (hk : k < atts.length) (h : ¬ atts[k].2.length = n) : recK n atts (k + 1) = recK n atts k := by simp [recK, hk, h]
theorem recK_yes {n : Nat} {atts : List Att} {k : Nat} (hk : k < atts.length) (h : atts[k].2.length = n) (h1 : n - 1 < n) : recK n atts (k + 1) = if (recK n atts k).1 = 0 ∨ atts[k].2[n - 1]'(by omega) < (recK n atts k).1 then (atts[k].2[n - 1]'(by omega), (recK n atts k).2 ++ [atts[k].1]) else recK n atts k := by
  have e1 : lastT atts[k] = atts[k].2[n - 1]'(by omega) := by unfold lastT; simp only [List.getD_eq_getElem?_getD]; simp only [h]; rw [List.getElem?_eq_getElem (by omega)]; rfl
  simp only [recK, hk, dite_true, h, true_and, e1]
theorem last_bd {segs : List (List UInt8)} {atts : List Att} (hok : HistOk segs atts) {k : Nat} (hk : k < atts.length) (h : atts[k].2.length = segs.length) : 0 < lastT atts[k] ∧ lastT atts[k] ≤ 864000000 := by
  have hs := hok.spl k hk
  have n1 := hok.n1
  have h1 : atts[k].2.length - 1 < atts[k].2.length := by omega
  have e1 : lastT atts[k] = atts[k].2[atts[k].2.length - 1] := by unfold lastT; rw [getD_is h1]
  have := hs.bd _ h1
  have := hs.fin h1
  rw [e1]; omega
theorem recK_bd {segs : List (List UInt8)} {atts : List Att} (hok : HistOk segs atts) : ∀ k, k ≤ atts.length → 0 ≤ (recK segs.length atts k).1 ∧ (recK segs.length atts k).1 ≤ 864000000 ∧ (recK segs.length atts k).2.length ≤ k := by
  intro k
  induction k with
  | zero => intro _; simp [recK]
  | succ k ih =>
    intro hk
    obtain ⟨a, b, c⟩ := ih (by omega)
    have hlt : k < atts.length := by omega
    simp only [recK, hlt, dite_true]
    split
    · rename_i h
      have := last_bd hok hlt h.1
      refine ⟨by simp only []; omega, by simp only []; omega, by simp; omega⟩
    · exact ⟨a, b, by omega⟩

/-- Nothing is known from a place on. -/
theorem nxA_none (l : List Int) (k : Nat) : ∀ j, ¬ nxA l k j < j → ∀ i, k ≤ i → i < j → l.getD i 0 = 0 := by
  intro j
  induction j with
  | zero => intro _ i _ h; omega
  | succ j ih =>
    intro h0 i hk hi
    by_cases h2 : nxA l k j < j
    · exact absurd (show nxA l k (j + 1) < j + 1 by simp only [nxA, h2, if_true]; omega) h0
    · have h3 : ¬ (k ≤ j ∧ l.getD j 0 ≠ 0) := fun h3 => h0 (by simp only [nxA, h2, if_false, if_pos h3]; omega)
      rcases Nat.lt_or_ge i j with h4 | h4
      · exact ih h2 i hk h4
      · have : i = j := by omega
        subst this
        rcases Int.decEq (l.getD i 0) 0 with h5 | h5
        · exact absurd ⟨hk, h5⟩ h3
        · exact h5
theorem nxA_is {l : List Int} {k m j : Nat} (hk : k ≤ m) (hm : m < j) (h : l.getD m 0 ≠ 0) (hz : ∀ i, k ≤ i → i < m → l.getD i 0 = 0) : nxA l k j = m := by
  by_cases h1 : nxA l k j < j
  · obtain ⟨a, b, c⟩ := nxA_spec l k j h1
    rcases Nat.lt_trichotomy (nxA l k j) m with h2 | h2 | h2
    · exact absurd (hz _ a h2) b
    · exact h2
    · exact absurd (c m hk h2) h
  · exact absurd (nxA_none l k j h1 m hk hm) h
theorem nxA_no {l : List Int} {k j : Nat} (hz : ∀ i, k ≤ i → i < j → l.getD i 0 = 0) : ¬ nxA l k j < j := fun h => by
  obtain ⟨a, b, _⟩ := nxA_spec l k j h
  exact b (hz _ a h)
theorem candA_not {V : Nat → Int} {l : List Int} {k : Nat} (h : ¬ goodA l k) : candA V l k = [] := by unfold candA; rw [if_neg (fun x => h x.1)]
theorem candA_none {V : Nat → Int} {l : List Int} {k : Nat} (hz : ∀ i, k ≤ i → i < l.length → l.getD i 0 = 0) : candA V l k = [] := by unfold candA; rw [if_neg (fun x => nxA_no hz x.2.1)]
theorem candA_neg {V : Nat → Int} {l : List Int} {k m : Nat} (hk : k ≤ m) (hm : m < l.length) (h : l.getD m 0 ≠ 0) (hz : ∀ i, k ≤ i → i < m → l.getD i 0 = 0) (hv : ¬ 0 ≤ V (m + 1)) : candA V l k = [] := by
  unfold candA; rw [nxA_is hk hm h hz, if_neg (fun x => hv x.2.2)]
theorem candA_is {V : Nat → Int} {l : List Int} {k m : Nat} (hg : goodA l k) (hk : k ≤ m) (hm : m < l.length) (h : l.getD m 0 ≠ 0) (hz : ∀ i, k ≤ i → i < m → l.getD i 0 = 0) (hv : 0 ≤ V (m + 1)) : candA V l k = [l.getD m 0 - pvA l k + V (m + 1)] := by
  unfold candA; rw [nxA_is hk hm h hz, if_pos ⟨hg, hm, hv⟩]
/-- The least sum from a place on, after so many attempts. -/
def lwA (V : Nat → Int) (atts : List Att) (k j : Nat) : Int := leastOf ((atts.take j).flatMap fun a => candA V a.2 k)
theorem lwA_zero (V : Nat → Int) (atts : List Att) (k : Nat) : lwA V atts k 0 = -1 := by simp [lwA, leastOf]
theorem lwA_skip {V : Nat → Int} {atts : List Att} {k j : Nat} (hj : j < atts.length) (h : candA V atts[j].2 k = []) : lwA V atts k (j + 1) = lwA V atts k j := by
  unfold lwA; rw [List.take_succ_eq_append_getElem hj, List.flatMap_append]; simp [h]
theorem lwA_step {V : Nat → Int} {atts : List Att} {k j : Nat} {c : Int} (hj : j < atts.length) (h : candA V atts[j].2 k = [c]) : lwA V atts k (j + 1) = if lwA V atts k j < 0 ∨ c < lwA V atts k j then c else lwA V atts k j := by
  unfold lwA; rw [List.take_succ_eq_append_getElem hj, List.flatMap_append]; simp [h, leastOf_snoc]
theorem lwA_all {segs : List (List UInt8)} {atts : List Att} (hok : HistOk segs atts) {k : Nat} (hk : k < segs.length) : lwA (lvV (stepsA atts) segs.length) atts k atts.length = lvV (stepsA atts) segs.length k := by
  rw [lvV_eq (stepsA_fwd hok).1 k hk, cands_A]
  unfold lwA
  rw [List.take_length]
end Go.Proofs.YtggnccafmadacaaGreatDoor
/- The walks of segment.times and splitref1.LengthsOf at right splits. -/
namespace Go.Proofs.YtggnccafmadacaaGreatDoor
set_option linter.unusedVariables false
set_option linter.unusedSimpArgs false
open Go.RowKit

theorem info_int : (Tryz.prog.info? 3).map (fun i => (i.zero, i.size, i.bytes)) = some (some (.int .i64 0), 1, 8) := by kernel_rfl
theorem ints_repz (n : Nat) : (madeCells #[Value.int .i64 0] n).toList = ints (List.replicate n 0) := by
  rw [toList_madeCells_one]
  simp [ints]
theorem ints_set (xs : List Int) (k : Nat) (x : Int) : (ints xs).set k (.int .i64 x) = ints (xs.set k x) := by simp [ints, List.map_set]
/-- What is laid down after so many segments. -/
def tmS (l : List Int) (k n : Nat) : List Int := tmL l k ++ List.replicate (n - k) 0
theorem tmS_len (l : List Int) (k n : Nat) (h : k ≤ n) : (tmS l k n).length = n := by simp [tmS, tmL_len]; omega
theorem tmS_zero (l : List Int) (n : Nat) : tmS l 0 n = List.replicate n 0 := by simp [tmS, tmL]
theorem tmS_end (l : List Int) (n : Nat) : tmS l n n = tmL l n := by simp [tmS]
theorem tmS_next {l : List Int} {k n : Nat} (h : k < n) : tmS l (k + 1) n = (tmS l k n).set k (tmA l k) := by
  have e : n - k = (n - (k + 1)) + 1 := by omega
  unfold tmS
  rw [tmL_snoc, e, List.replicate_succ, List.set_append_right _ _ (by rw [tmL_len]; exact Nat.le_refl _), tmL_len, Nat.sub_self]
  simp
theorem tmS_same {l : List Int} {k n : Nat} (h : k < n) (h0 : tmA l k = 0) : tmS l (k + 1) n = tmS l k n := by
  have e : n - k = (n - (k + 1)) + 1 := by omega
  unfold tmS
  rw [tmL_snoc, h0, e, List.replicate_succ]
  simp

end Go.Proofs.YtggnccafmadacaaGreatDoor
