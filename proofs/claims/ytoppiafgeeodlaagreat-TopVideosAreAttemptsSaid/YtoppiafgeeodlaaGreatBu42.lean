/- Texts of this seat, laid together: LawTopVideosAreAttempts. -/
import Derived.Test.YtoppiafgeeodlaaGreatBu32
import Derived.Test.YtoppiafgeeodlaaGreatBu41
import Derived.Test.YtoppiafgeeodlaaGreatBu35
import Derived.Test.YtoppiafgeeodlaaGreatBu27
/- For every list of numbers the law TopVideosAreAttempts returns true and leaves the list as it was: its walk. -/
namespace Go.Proofs.YtoppiafgeeodlaaGreat
set_option linter.unusedVariables false
set_option linter.unusedSimpArgs false
open Go.RowKit

set_option maxHeartbeats 4000000 in
set_option maxRecDepth 100000 in
theorem videos_walk (A : Option Addr) (n c : Nat) (w : World) (hn : n ≤ 9223372036854775807)
    (hz : ∀ k, k < n → ∃ b off z, A = some ⟨b, off, none⟩ ∧ b < w.heap.size ∧ w.cell? ⟨b, off + k, none⟩ = some (.int .i64 z) ∧ I64 z) :
    LawCall 3 A n c w := by
  have hstr := str_make (c := c) hn hz
  clear hz
  go_enter Tryz.func3, Tryz.ntmps3
  go_wp2_with fail
  refine (rightVideo_any w.heap.size 0 _ hstr (by omega)).mono ?_
  rintro e w1 ⟨Ax, cx, v, Bx, dx, m, rfl, hrow1, hmk1, hv4, hm20, hmk, hvi, hs1, hg1⟩
  have hb1 : Below w.heap.size w w1 := ((Below.refl _ _).alloc (Nat.le_refl _) _).grown hg1 (by simp) (fun k hk => by injection hk with hk; omega)
  have hl : v.length ≤ 1000000000 := by omega
  have hlm : m.length ≤ 1000000000 := by omega
  have HI := Lib.hid hvi
  have HM := Lib.hid hmk
  obtain ⟨_, _, _, ⟨r, x, hr, hx⟩, _, hsl⟩ := tb_law hmk
  have HR := Lib.hid hr
  have HX := Lib.hid hx
  clear hg1 hstr hvi hmk hs1 hr hx
  go_wp2_with fail
  refine (splits_any _ _ _ _ _ _ v m _ hrow1 hmk1 hl hlm HI.out).mono ?_
  rintro e w2 ⟨As, cs, rfl, hsp2, hb2⟩
  have hrow2 := hrow1.below hb2
  have hmk2 := hmk1.below hb2
  have hx2 := below_up hb1 hb2
  rw [HM.out]
  clear hb2 hrow1 hmk1 hb1
  go_wp2_with fail
  refine (timed_any _ _ _ _ _ _ v m _ hrow2 hmk2 hl hlm HI.out).mono ?_
  rintro e w3 ⟨rfl, hb3⟩
  have hsp3 := hsp2.below hb3
  have hx3 := below_up hx2 hb3
  rw [HM.out]
  clear hb3 hrow2 hmk2 hx2 hsp2
  generalize tmE v m = T at *
  generalize spE v m = S at *
  have hlS : S.length = r.length + 1 := by rw [HR.out]; simp
  have hl1 : 1 ≤ S.length := by omega
  have HLast : Hid (∀ h : S.length - 1 < S.length, S[S.length - 1] = T) := Lib.hid (fun h => by
    have h9 : S[S.length - 1]? = some x := by rw [HR.out]; simp
    rw [List.getElem?_eq_getElem h] at h9
    injection h9 with h9
    rw [h9, HX.out])
  clear HR HX hlS
  have d4 : ((S.length : Int) == 0) = false := by rw [beq_eq_false_iff_ne]; omega
  have hx4 := hx3.alloc hx3.size (.cells #[.string ⟨#[97, 97]⟩, .string ⟨#[98, 98]⟩, .string ⟨#[99, 99]⟩, .string ⟨#[100, 100]⟩, .string ⟨#[101, 101]⟩] 9)
  have hsp4 := hsp3.alloc (.cells #[.string ⟨#[97, 97]⟩, .string ⟨#[98, 98]⟩, .string ⟨#[99, 99]⟩, .string ⟨#[100, 100]⟩, .string ⟨#[101, 101]⟩] 9)
  by_cases h5 : 5 < S.length
  · go_wp2_with fail
    refine (h06facts_any _).mono ?_
    rintro e w7 ⟨rfl, hb7⟩
    go_wp2_with fail
    go_ret
    exact ⟨rfl, below_up hx4 hb7⟩
  · have d5 : decide (5 < S.length) = false := by simpa using h5
    have h5' : S.length ≤ 5 := by omega
    clear h5
    go_wp2_with fail
    refine (rsplitsFault_any S.length _ _ _ S _ hsp4 (by omega) (by omega)).mono ?_
    rintro e w5 ⟨rfl, rfl⟩
    by_cases hf : splF S.length S = 0
    · have hok := splF_ok hf
      have HOK := Lib.hid hok
      rw [hf]
      clear hok hf
      go_wp2_with fail
      refine (containsI_any _ _ _ S 0 _ hsp4 (by omega)).mono ?_
      rintro e w5 ⟨rfl, rfl⟩
      by_cases h0 : (0 : Int) ∈ S
      · have d0 : decide ((0 : Int) ∈ S) = true := by simpa using h0
        rw [d0]
        clear d0 h0
        go_wp2_with fail
        refine (h06facts_any _).mono ?_
        rintro e w7 ⟨rfl, hb7⟩
        go_wp2_with fail
        go_ret
        exact ⟨rfl, below_up hx4 hb7⟩
      · have d0 : decide ((0 : Int) ∈ S) = false := by simpa using h0
        rw [d0]
        have H0 := Lib.hid h0
        clear d0 h0
        go_wp2_with fail
        have hnm : Blk (((w3.alloc (.cells #[.string ⟨#[97, 97]⟩, .string ⟨#[98, 98]⟩, .string ⟨#[99, 99]⟩, .string ⟨#[100, 100]⟩, .string ⟨#[101, 101]⟩] 9)).alloc (.cells #[.int .i64 1, .slice As S.length cs] 40)).alloc (.cells #[.slice (some ⟨w3.heap.size, 0, none⟩) S.length 5, .slice (some ⟨w3.heap.size + 1, 0, none⟩) 1 1] 43)) w3.heap.size 9 #[.string ⟨#[97, 97]⟩, .string ⟨#[98, 98]⟩, .string ⟨#[99, 99]⟩, .string ⟨#[100, 100]⟩, .string ⟨#[101, 101]⟩] := ((Blk.at_ _ rfl).alloc _).alloc _
        have hat : Blk (((w3.alloc (.cells #[.string ⟨#[97, 97]⟩, .string ⟨#[98, 98]⟩, .string ⟨#[99, 99]⟩, .string ⟨#[100, 100]⟩, .string ⟨#[101, 101]⟩] 9)).alloc (.cells #[.int .i64 1, .slice As S.length cs] 40)).alloc (.cells #[.slice (some ⟨w3.heap.size, 0, none⟩) S.length 5, .slice (some ⟨w3.heap.size + 1, 0, none⟩) 1 1] 43)) (w3.heap.size + 1) 40 #[.int .i64 1, .slice As S.length cs] := (Blk.at_ _ (by simp)).alloc _
        have hhb : Blk (((w3.alloc (.cells #[.string ⟨#[97, 97]⟩, .string ⟨#[98, 98]⟩, .string ⟨#[99, 99]⟩, .string ⟨#[100, 100]⟩, .string ⟨#[101, 101]⟩] 9)).alloc (.cells #[.int .i64 1, .slice As S.length cs] 40)).alloc (.cells #[.slice (some ⟨w3.heap.size, 0, none⟩) S.length 5, .slice (some ⟨w3.heap.size + 1, 0, none⟩) 1 1] 43)) (w3.heap.size + 1 + 1) 43 #[.slice (some ⟨w3.heap.size, 0, none⟩) S.length 5, .slice (some ⟨w3.heap.size + 1, 0, none⟩) 1 1] := Blk.at_ _ (by simp)
        have hxw : Below w.heap.size w (((w3.alloc (.cells #[.string ⟨#[97, 97]⟩, .string ⟨#[98, 98]⟩, .string ⟨#[99, 99]⟩, .string ⟨#[100, 100]⟩, .string ⟨#[101, 101]⟩] 9)).alloc (.cells #[.int .i64 1, .slice As S.length cs] 40)).alloc (.cells #[.slice (some ⟨w3.heap.size, 0, none⟩) S.length 5, .slice (some ⟨w3.heap.size + 1, 0, none⟩) 1 1] 43)) := by
          have := hx4.size
          exact (hx4.alloc this _).alloc (by simp at this ⊢; omega) _
        have hspw := (hsp4.alloc (.cells #[.int .i64 1, .slice As S.length cs] 40)).alloc (.cells #[.slice (some ⟨w3.heap.size, 0, none⟩) S.length 5, .slice (some ⟨w3.heap.size + 1, 0, none⟩) 1 1] 43)
        generalize (((w3.alloc (.cells #[.string ⟨#[97, 97]⟩, .string ⟨#[98, 98]⟩, .string ⟨#[99, 99]⟩, .string ⟨#[100, 100]⟩, .string ⟨#[101, 101]⟩] 9)).alloc (.cells #[.int .i64 1, .slice As S.length cs] 40)).alloc (.cells #[.slice (some ⟨w3.heap.size, 0, none⟩) S.length 5, .slice (some ⟨w3.heap.size + 1, 0, none⟩) 1 1] 43)) = W at *
        obtain ⟨segs, hsegs⟩ : ∃ segs, segs = nms.take S.length := ⟨_, rfl⟩
        have hlen : segs.length = S.length := by rw [hsegs, List.length_take]; simp only [nms, List.length_cons, List.length_nil]; omega
        have hist := tv_hist hsegs h5' hnm hat hspw
        have hok := tv_ok hsegs h5' hl1 HOK.out
        obtain ⟨v1, v2, v3, v4⟩ := tv_vals hlen hl1 hok H0.out (HLast.out (by omega))
        have hB := Best_ok _ _ 5 1 0 segs [(1, S)] W hist (by omega) hok
        rw [hlen, v1, v2] at hB
        have hB2 := hB
        refine Calls.mono (show Calls Tryz.prog 10 #[.agg #[.slice (some ⟨w3.heap.size, 0, none⟩) S.length 5, .slice (some ⟨w3.heap.size + 1, 0, none⟩) 1 1]] W _ from hB) ?_
        rintro e w6 ⟨rfl, hb6⟩
        rw [show decide (0 ≤ bI S.length [((1 : Int), S)] [((1 : Int), S)].length) = true from v3]
        have hist6 := hist.below hb6
        have hhb6 := hhb.below hb6
        have hx6 := below_up hxw hb6
        obtain ⟨u0, u1⟩ : w6.cell? ⟨w3.heap.size + 1 + 1, 0, none⟩ = some (.slice (some ⟨w3.heap.size, 0, none⟩) S.length 5) ∧ w6.cell? ⟨w3.heap.size + 1 + 1, 1, none⟩ = some (.slice (some ⟨w3.heap.size + 1, 0, none⟩) 1 1) := ⟨by simpa using hhb6.cell 0, by simpa using hhb6.cell 1⟩
        have zh := hhb6.lt
        have hS := sumOfBest_ok _ _ 5 1 0 segs [(1, S)] w6 hist6 (by omega) hok
        rw [hlen, v4] at hS
        have hT0 : 0 ≤ T := by
          have h1 := HLast.out (by omega)
          have h2 := HOK.out.bd (S.length - 1) (by omega)
          omega
        have hm0 : max T 0 = T := by omega
        have hd0 : decide (0 ≤ T) = true := by simpa using hT0
        rw [hm0, hd0] at hS
        have HS := Lib.hid hS
        clear hS hB hB2 hist hist6 hhb hhb6 hat hnm hspw hxw hb6 v1 v2 v3 v4 hok hsegs hT0 hm0 hd0
        go_wp2_with fail
        refine Calls.mono (show Calls Tryz.prog 11 #[.agg #[.slice (some ⟨w3.heap.size, 0, none⟩) S.length 5, .slice (some ⟨w3.heap.size + 1, 0, none⟩) 1 1]] w6 _ from HS.out) ?_
        rintro e w7 ⟨rfl, hb7⟩
        have hx7 := below_up hx6 hb7
        clear HS hb7 hx6 u0 u1 zh
        go_wp2_with fail
        refine (h06facts_any _).mono ?_
        rintro e w8 ⟨rfl, hb8⟩
        go_wp2_with fail
        go_ret
        exact ⟨rfl, below_up hx7 hb8⟩
    · have d : (splF S.length S != 0) = true := by simpa using hf
      go_wp2_with fail
      refine (h06facts_any _).mono ?_
      rintro e w7 ⟨rfl, hb7⟩
      go_wp2_with fail
      go_ret
      exact ⟨rfl, below_up hx4 hb7⟩
end Go.Proofs.YtoppiafgeeodlaaGreat
