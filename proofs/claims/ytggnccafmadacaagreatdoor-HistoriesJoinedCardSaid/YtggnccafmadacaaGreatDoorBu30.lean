/- Texts of this seat, laid together: Hd. -/
import Derived.Test.YtggnccafmadacaaGreatDoorBu28
import Derived.Test.YtggnccafmadacaaGreatDoorBu09
import Derived.Test.YtggnccafmadacaaGreatDoorBu29
import Derived.Test.YtggnccafmadacaaGreatDoorBu19
/- The walks of segment.rows and golds, splitref1.RowOf and GoldsOf at a right history. -/
namespace Go.Proofs.YtggnccafmadacaaGreatDoor
set_option linter.unusedVariables false
set_option linter.unusedSimpArgs false
open Go.RowKit

/-! ### plain: the rows as they grow -/
def rowsL (atts : List Att) (n : Nat) : List (List Int) := (List.range n).map (rowA atts)
def rowsP (atts : List Att) (l : List Int) (j n : Nat) : List (List Int) := (List.range n).map (rowP atts l j)
def rowsS (atts : List Att) (j n : Nat) : List (List Int) := (List.range n).map fun k => if k < j then sorted (rowA atts k) else rowA atts k
theorem rowsL_len (atts : List Att) (n : Nat) : (rowsL atts n).length = n := by simp [rowsL]
theorem rowsP_len (atts : List Att) (l : List Int) (j n : Nat) : (rowsP atts l j n).length = n := by simp [rowsP]
theorem rowsS_len (atts : List Att) (j n : Nat) : (rowsS atts j n).length = n := by simp [rowsS]
theorem rowsL_nil (n : Nat) : rowsL [] n = List.replicate n [] := by
  apply List.ext_getElem
  · simp [rowsL]
  · intro i h1 h2; simp [rowsL, rowA]
theorem rowsP_zero (atts : List Att) (l : List Int) (n : Nat) : rowsP atts l 0 n = rowsL atts n := by
  unfold rowsP rowsL
  refine List.map_congr_left fun k _ => ?_
  unfold rowP
  rw [if_neg (fun h => Nat.not_lt_zero _ h.1), List.append_nil]
theorem rowsP_get (atts : List Att) (l : List Int) (j n k : Nat) (h : k < (rowsP atts l j n).length) : (rowsP atts l j n)[k] = rowP atts l j k := by simp [rowsP]
theorem rowsP_at (atts : List Att) (l : List Int) (j n : Nat) (h : j < (rowsP atts l j n).length) : (rowsP atts l j n)[j] = rowA atts j := by
  rw [rowsP_get]
  unfold rowP
  rw [if_neg (fun h => Nat.lt_irrefl _ h.1), List.append_nil]
theorem rowsP_keep {atts : List Att} {l : List Int} {j n : Nat} (h : ¬ 0 < tmA l j) : rowsP atts l (j + 1) n = rowsP atts l j n := by
  unfold rowsP
  refine List.map_congr_left fun k _ => ?_
  unfold rowP
  by_cases hk : k = j
  · subst hk
    rw [if_neg (fun h2 => h h2.2.2), if_neg (fun h2 => h h2.2.2)]
  · by_cases h1 : k < j ∧ k < l.length ∧ 0 < tmA l k
    · rw [if_pos h1, if_pos ⟨by omega, h1.2⟩]
    · rw [if_neg h1, if_neg (fun h2 => h1 ⟨by omega, h2.2⟩)]
theorem rowsP_push {atts : List Att} {l : List Int} {j n : Nat} (hj : j < l.length) (hn : j < n) (h : 0 < tmA l j) : rowsP atts l (j + 1) n = (rowsP atts l j n).set j (rowA atts j ++ [tmA l j]) := by
  apply List.ext_getElem
  · simp [rowsP]
  · intro k h1 h2
    have hk : k < n := by simpa [rowsP] using h1
    rw [List.getElem_set, rowsP_get, rowsP_get]
    unfold rowP
    by_cases e : j = k
    · subst e
      rw [if_pos ⟨Nat.lt_succ_self _, hj, h⟩, if_pos rfl]
    · rw [if_neg e]
      by_cases h3 : k < j ∧ k < l.length ∧ 0 < tmA l k
      · rw [if_pos h3, if_pos ⟨by omega, h3.2⟩]
      · rw [if_neg h3, if_neg (fun h4 => h3 ⟨by omega, h4.2⟩)]
theorem rowsP_end {atts : List Att} {i n : Nat} (hi : i < atts.length) : rowsP (atts.take i) atts[i].2 atts[i].2.length n = rowsL (atts.take (i + 1)) n := by
  unfold rowsP rowsL
  refine List.map_congr_left fun k _ => ?_
  unfold rowP
  rw [rowA_take _ _ _ hi]
  by_cases h : k < atts[i].2.length ∧ 0 < tmA atts[i].2 k
  · rw [if_pos h, if_pos ⟨h.1, h⟩]
  · rw [if_neg h, if_neg (fun h2 => h h2.2)]
theorem rowsS_zero (atts : List Att) (n : Nat) : rowsS atts 0 n = rowsL atts n := by
  unfold rowsS rowsL
  refine List.map_congr_left fun k _ => ?_
  rw [if_neg (Nat.not_lt_zero _)]
theorem rowsS_at (atts : List Att) (j n i : Nat) (h : i < (rowsS atts j n).length) : (rowsS atts j n)[i] = if i < j then sorted (rowA atts i) else rowA atts i := by simp [rowsS]
theorem rowsS_next {atts : List Att} {j n : Nat} (hn : j < n) : rowsS atts (j + 1) n = (rowsS atts j n).set j (sorted (rowA atts j)) := by
  apply List.ext_getElem
  · simp [rowsS]
  · intro k h1 h2
    rw [List.getElem_set, rowsS_at, rowsS_at]
    by_cases e : j = k
    · subst e; simp
    · rw [if_neg e]
      by_cases h3 : k < j
      · rw [if_pos h3, if_pos (by omega)]
      · rw [if_neg h3, if_neg (by omega)]
theorem rowA_take_len (atts : List Att) (i k : Nat) : (rowA (atts.take i) k).length ≤ atts.length := Nat.le_trans (rowA_len _ _) (by simp; omega)
theorem info_ints : (Tryz.prog.info? 22).map (fun i => (i.zero, i.size, i.bytes)) = some (some (.slice none 0 0), 1, 24) := by kernel_rfl
theorem und_intss : Tryz.prog.underlying 255 = some (.slice 22) := Tryz.underlying255

end Go.Proofs.YtggnccafmadacaaGreatDoor
