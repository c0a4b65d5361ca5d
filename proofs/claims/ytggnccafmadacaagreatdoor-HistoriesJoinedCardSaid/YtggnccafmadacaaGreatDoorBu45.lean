/- Texts of this seat, laid together: Jz. -/
import Derived.Test.YtggnccafmadacaaGreatDoorBu37
import Derived.Test.YtggnccafmadacaaGreatDoorBu44
/- Sizes of what Merge, Join and Read answer. -/
namespace Go.Proofs.YtggnccafmadacaaGreatDoor
set_option linter.unusedVariables false
set_option linter.unusedSimpArgs false
open Go.RowKit Go.Sort

/-- Sizes of an answer that no comparison refuses. -/
structure Sz3 (ss : List (List UInt8)) (l : List Att) : Prop where
  s : ss.length ≤ 1000000000
  t : l.length ≤ 1000000000
  x : ∀ i (h : i < l.length), l[i].2.length ≤ 1000000000
theorem Sz3.nil : Sz3 [] [] := ⟨by simp, by simp, fun i h => by simp at h⟩
theorem Sz3.ok {ss : List (List UInt8)} {l : List Att} (h : HistOk ss l) : Sz3 ss l :=
  ⟨by have := h.n2; omega, by have := h.m; omega, fun i hi => by have := (h.spl i hi).len; have := h.n2; omega⟩
theorem mOut_sz {sa sb : List (List UInt8)} {us bs : List Att} (ha : sa.length ≤ 1000) (hu : us.length ≤ 1000) (hb : bs.length ≤ 1000) (h1 : ∀ i (h : i < us.length), us[i].2.length ≤ 1000) (h2 : ∀ i (h : i < bs.length), bs[i].2.length ≤ 1000) : Sz3 (mOut sa us sb bs).2.1 (mOut sa us sb bs).2.2 := by
  unfold mOut
  split
  · exact Sz3.nil
  · split
    · have hp : (mergedL us bs).Perm (us ++ mgN us bs) := List.mergeSort_perm _ _
      have hl : (mgN us bs).length ≤ bs.length := by unfold mgN; exact List.length_filter_le _ _
      refine ⟨Nat.le_trans ha (by decide), ?_, fun i hi => ?_⟩
      · have := hp.length_eq
        rw [List.length_append] at this
        show (mergedL us bs).length ≤ _
        omega
      · have hi' : i < (mergedL us bs).length := hi
        have hm : (mergedL us bs)[i] ∈ us ++ mgN us bs := hp.subset (List.getElem_mem hi')
        show (mergedL us bs)[i].2.length ≤ 1000000000
        rcases List.mem_append.1 hm with h | h
        · obtain ⟨j, hj, e⟩ := List.mem_iff_getElem.1 h
          have := h1 j hj
          rw [e] at this; omega
        · obtain ⟨j, hj, e⟩ := List.mem_iff_getElem.1 (List.mem_filter.1 h).1
          have := h2 j hj
          rw [e] at this; omega
    · exact Sz3.nil
theorem jOut_sz {segs : List (List UInt8)} {atts : List Att} {z : List UInt8} : Sz3 (jOut segs atts z).2.1 (jOut segs atts z).2.2 := by
  unfold jOut
  split
  · exact Sz3.nil
  · rename_i hf
    split
    · exact Sz3.nil
    · rename_i hz
      split
      · exact Sz3.nil
      · rename_i hl
        have hk := List.idxOf_lt_length_iff.2 (Classical.not_not.1 hz)
        exact Sz3.ok (ok_join (histF_ok (Classical.not_not.1 hf)) (by omega))
theorem readV_sz (t : List UInt8) : Sz3 (readV t).1 (readV t).2.1 := by
  by_cases h : (readV t).2.2.2 = 0
  · exact Sz3.ok (text_comes h).1
  · have : (readV t).1 = [] ∧ (readV t).2.1 = [] := by
      revert h
      unfold readV
      split
      · intro _; exact ⟨rfl, rfl⟩
      · split
        · intro _; exact ⟨rfl, rfl⟩
        · split
          · intro _; exact ⟨rfl, rfl⟩
          · split
            · intro h; exact absurd rfl h
            · intro _; exact ⟨rfl, rfl⟩
    rw [this.1, this.2]
    exact Sz3.nil
theorem mOut_bad {sa sb : List (List UInt8)} {us bs : List Att} (h : firstE [histF sa us, histF sb bs] ≠ 0) : mOut sa us sb bs = (firstE [histF sa us, histF sb bs], [], []) := by unfold mOut; rw [if_pos h]
theorem jOut_bad {segs : List (List UInt8)} {atts : List Att} {z : List UInt8} (h : histF segs atts ≠ 0) : jOut segs atts z = (histF segs atts, [], []) := by unfold jOut; rw [if_pos h]
end Go.Proofs.YtggnccafmadacaaGreatDoor
