/- Texts of this seat, laid together: SgE SgG. -/
import Derived.Test.YtdidcjhgdofgcaaGreatDoorBc24
/- The walk of SumOfBest at a history that is right. -/
namespace Go.Proofs.YtdidcjhgdofgcaaGreatDoor
set_option linter.unusedVariables false
set_option linter.unusedSimpArgs false
open Go.RowKit Go.Sort

theorem ret3v {a b c x y z : Value} (h1 : a = x) (h2 : b = y) (h3 : c = z) : Ending.returned (.tuple #[a, b, c]) = .returned (.tuple #[x, y, z]) := by rw [h1, h2, h3]
def sumV (segs : List (List UInt8)) (atts : List Att) : Int := lvV (stepsA atts) segs.length 0
set_option maxHeartbeats 1000000 in
theorem sumOfBest_ok (SA TA : Option Addr) (c d lo : Nat) (segs : List (List UInt8)) (atts : List Att) (w : World) (hh : Hist w lo SA TA segs atts) (hc : segs.length ≤ c) (hok : HistOk segs atts) :
    Calls Tryz.prog 72 #[.agg #[.slice SA segs.length c, .slice TA atts.length d]] w fun e w' => e = .returned (.tuple #[.int .i64 (max (sumV segs atts) 0), .bool (decide (0 ≤ sumV segs atts)), .int .i64 0]) ∧ Below w.heap.size w w' := by
  have HO := Lib.hid hok
  have n1 := hok.n1
  have n2 := hok.n2
  clear hok
  go_enter Tryz.func72, Tryz.ntmps72
  go_wp2_with fail
  have hb0 : Below w.heap.size w (w.alloc (.cells #[.slice SA segs.length c, .slice TA atts.length d] 126)) := (Below.refl _ _).alloc (Nat.le_refl _) _
  have hk0 : Blk (w.alloc (.cells #[.slice SA segs.length c, .slice TA atts.length d] 126)) w.heap.size 126 #[.slice SA segs.length c, .slice TA atts.length d] := Blk.new _ _ _
  have hh0 := hh.alloc (.cells #[.slice SA segs.length c, .slice TA atts.length d] 126)
  generalize w.alloc (.cells #[.slice SA segs.length c, .slice TA atts.length d] 126) = w0 at *
  refine (checkHistory_ok _ _ _ _ _ segs atts _ hh0 hc HO.out).mono ?_
  rintro e w1 ⟨rfl, hb1⟩
  have hh1 := hh0.below hb1
  have hk1 := hk0.below hb1
  have hx1 := hb0.trans (hb1.mono hb0.size)
  clear hb1 hb0 hh0 hk0 hh
  go_wp2_with fail
  refine (leasts_ok _ _ _ _ _ _ segs atts _ hk1 hh1 HO.out).mono ?_
  rintro e w2 ⟨g, c2, rfl, hg, hob, hb2⟩
  have hx2 := hx1.trans (hb2.mono hx1.size)
  have hll := outL_len (lvV (stepsA atts) segs.length) (stepsA atts) segs.length
  have c0 := hob.cell 0 (by omega)
  rw [outL_at, outP_all (stepsA_fwd HO.out).1 (List.Perm.refl _) 0 (by omega)] at c0
  have HS : Hid (sumV segs atts = lvV (stepsA atts) segs.length 0) := Lib.hid rfl
  generalize lvV (stepsA atts) segs.length 0 = v at *
  have hgl := hob.lt
  clear hb2 hx1 hh1 hk1 hob hll
  rcases Int.lt_or_le v 0 with h | h
  · have q : decide (0 ≤ v) = false := by simp; omega
    go_wp2_with fail
    go_ret3
    exact ⟨ret3v (by rw [HS.out]; rfl) (by rw [HS.out, q]; rfl) rfl, hx2⟩
  · have q : decide (0 ≤ v) = true := by simp; omega
    go_wp2_with fail
    go_ret3
    exact ⟨ret3v (by rw [HS.out]; rfl) (by rw [HS.out, q]; rfl) rfl, hx2⟩
end Go.Proofs.YtdidcjhgdofgcaaGreatDoor
/- The walks of the faults of splits at any splits; slices.Index and Contains at numbers. -/
namespace Go.Proofs.YtdidcjhgdofgcaaGreatDoor
set_option linter.unusedVariables false
set_option linter.unusedSimpArgs false
open Go.RowKit

theorem splF_large {many : Nat} {l : List Int} (h : many < l.length) : splF many l = 2 := by simp [splF, h]
theorem splF_at {many : Nat} {l : List Int} (h : ¬ many < l.length) {k : Nat} (hk : k < l.length) (h0 : sgl 0 (l.take k) = 0) (hx : l[k] < 0 ∨ 864000000 < l[k]) : splF many l = 1 := by
  have h1 : sgl 0 (l.take (k + 1)) = 1 := by rw [List.take_succ_eq_append_getElem hk, sgl_snoc _ _ h0, if_pos hx]
  have h2 : sgl 0 l = 1 := by rw [sgl_stop l (k + 1) (by rw [h1]; decide), h1]
  simp [splF, h, h2]
theorem splF_ord {many : Nat} {l : List Int} (h : ¬ many < l.length) {k : Nat} (hk : k < l.length) (h0 : sgl 0 (l.take k) = 0) (hx : ¬ (l[k] < 0 ∨ 864000000 < l[k])) (hy : l[k] ≠ 0 ∧ l[k] ≤ sgM (l.take k)) : splF many l = 7 := by
  have h1 : sgl 0 (l.take (k + 1)) = 7 := by rw [List.take_succ_eq_append_getElem hk, sgl_snoc _ _ h0, if_neg hx, if_pos hy]
  have h2 : sgl 0 l = 7 := by rw [sgl_stop l (k + 1) (by rw [h1]; decide), h1]
  simp [splF, h, h2]
theorem sgl_next {l : List Int} {k : Nat} (hk : k < l.length) (h0 : sgl 0 (l.take k) = 0) (hx : ¬ (l[k] < 0 ∨ 864000000 < l[k])) (hy : ¬ (l[k] ≠ 0 ∧ l[k] ≤ sgM (l.take k))) : sgl 0 (l.take (k + 1)) = 0 := by
  rw [List.take_succ_eq_append_getElem hk, sgl_snoc _ _ h0, if_neg hx, if_neg hy]
theorem splF_end {many : Nat} {l : List Int} (h : ¬ many < l.length) (h0 : sgl 0 l = 0) (hl : l.length - 1 < l.length) : splF many l = if l[l.length - 1] = 0 then 3 else 0 := by
  have e : l.getLast? = some l[l.length - 1] := by rw [List.getLast?_eq_getElem?, List.getElem?_eq_getElem hl]
  simp [splF, h, h0, e]
theorem splF_nil {many : Nat} {l : List Int} (h0 : l.length = 0) : splF many l = 0 := by
  have : l = [] := List.eq_nil_of_length_eq_zero h0
  subst this; rfl
theorem sgl_bd (l : List Int) : ∀ (last : Int), sgl last l = 0 → ∀ x ∈ l, 0 ≤ x ∧ x ≤ 864000000 := by
  induction l with
  | nil => intro _ _ x hx; cases hx
  | cons n l ih =>
    intro last h x hx
    simp only [sgl] at h
    split at h
    · omega
    · split at h
      · omega
      · rcases List.mem_cons.1 hx with rfl | hx
        · omega
        · exact ih _ h x hx
theorem splF_ok {many : Nat} {l : List Int} (h : splF many l = 0) : SplOk many l := by
  unfold splF at h
  split at h
  · omega
  · rename_i h1
    split at h
    · rename_i h2; exact absurd h h2
    · rename_i h2
      have h2 : sgl 0 l = 0 := by simpa using h2
      split at h
      · omega
      · rename_i h3
        refine ⟨by omega, fun i hi => sgl_bd l 0 h2 _ (List.getElem_mem _), fun i hi h0 => ?_, fun hi h0 => h3 ?_⟩
        · have h4 : sgl 0 (l.take (i + 1)) = 0 := by
            rcases Int.decEq (sgl 0 (l.take (i + 1))) 0 with h | h
            · exact absurd (sgl_stop l (i + 1) h) (by rw [h2]; exact fun e => h e.symm)
            · exact h
          have h5 : sgl 0 (l.take i) = 0 := by
            rcases Int.decEq (sgl 0 (l.take i)) 0 with h | h
            · exact absurd (sgl_stop l i h) (by rw [h2]; exact fun e => h e.symm)
            · exact h
          rw [List.take_succ_eq_append_getElem hi, sgl_snoc _ _ h5] at h4
          split at h4
          · omega
          · split at h4
            · omega
            · rename_i h6
              have : ¬ (l[i] ≤ sgM (l.take i)) := fun h => h6 ⟨h0, h⟩
              omega
        · rw [List.getLast?_eq_getElem?, List.getElem?_eq_getElem hi, h0]
theorem rin_any (n lo hi : Int) (w : World) : Calls Tryz.prog 37 #[.int .i64 n, .int .i64 lo, .int .i64 hi] w fun e w' => e = .returned (.bool (decide (lo ≤ n) && decide (n ≤ hi))) ∧ w = w' := by
  go_enter Tryz.func37, Tryz.ntmps37
  by_cases h : lo ≤ n
  · have q : decide (lo ≤ n) = true := by simpa using h
    rw [q]
    go_wp2_with fail
    go_ret
    exact ⟨by simp, rfl⟩
  · have q : decide (lo ≤ n) = false := by simpa using h
    rw [q]
    go_wp2_with fail
    go_ret
    exact ⟨by simp, rfl⟩
end Go.Proofs.YtdidcjhgdofgcaaGreatDoor
