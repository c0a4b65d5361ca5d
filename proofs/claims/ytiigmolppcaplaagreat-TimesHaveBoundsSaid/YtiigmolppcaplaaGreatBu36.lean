/- Texts of this seat, laid together: LawTimesHaveBounds. -/
import Derived.Test.YtiigmolppcaplaaGreatBu32
import Derived.Test.YtiigmolppcaplaaGreatBu08
import Derived.Test.YtiigmolppcaplaaGreatBu35
import Derived.Test.YtiigmolppcaplaaGreatBu27
/- For every list of numbers the law TimesHaveBounds returns true and leaves the list as it was: its walk. -/
namespace Go.Proofs.YtiigmolppcaplaaGreat
set_option linter.unusedVariables false
set_option linter.unusedSimpArgs false
open Go.RowKit

set_option maxHeartbeats 4000000 in
set_option maxRecDepth 100000 in
theorem bounds_walk (A : Option Addr) (n c : Nat) (w : World) (hn : n ≤ 9223372036854775807)
    (hz : ∀ k, k < n → ∃ b off z, A = some ⟨b, off, none⟩ ∧ b < w.heap.size ∧ w.cell? ⟨b, off + k, none⟩ = some (.int .i64 z) ∧ I64 z) :
    LawCall 4 A n c w := by
  have hstr := str_make (c := c) hn hz
  clear hz
  go_enter Tryz.func4, Tryz.ntmps4
  go_wp2_with fail
  refine (rightVideo_any w.heap.size 0 _ hstr (by omega)).mono ?_
  rintro e w1 ⟨Ax, cx, v, Bx, dx, m, rfl, hrow1, hmk1, hv4, hm20, hmk, hvi, hs1, hg1⟩
  have hb1 : Below w.heap.size w w1 := ((Below.refl _ _).alloc (Nat.le_refl _) _).grown hg1 (by simp) (fun k hk => by injection hk with hk; omega)
  have hl : v.length ≤ 1000000000 := by omega
  have hlm : m.length ≤ 1000000000 := by omega
  have HI := Lib.hid hvi
  have HM := Lib.hid hmk
  obtain ⟨t1, t2, t3, ⟨r, x, hr, hx⟩, hsorted, hsl⟩ := tb_law hmk
  have HR := Lib.hid hr
  have HX := Lib.hid hx
  have HS := Lib.hid hsorted
  clear hg1 hstr hvi hmk hs1 hr hx hsorted
  go_wp2_with fail
  refine (timed_any _ _ _ _ _ _ v m _ hrow1 hmk1 hl hlm HI.out).mono ?_
  rintro e w2 ⟨rfl, hb2⟩
  have hrow2 := hrow1.below hb2
  have hmk2 := hmk1.below hb2
  have hx2 := below_up hb1 hb2
  rw [HM.out]
  clear hb2 hrow1 hmk1 hb1
  go_wp2_with fail
  refine (whole_any _ _ _ _ _ _ v m _ hrow2 hmk2 hl hlm HI.out).mono ?_
  rintro e w3 ⟨rfl, hb3⟩
  have hrow3 := hrow2.below hb3
  have hmk3 := hmk2.below hb3
  have hx3 := below_up hx2 hb3
  rw [HM.out]
  clear hb3 hrow2 hmk2 hx2
  go_wp2_with fail
  refine (splits_any _ _ _ _ _ _ v m _ hrow3 hmk3 hl hlm HI.out).mono ?_
  rintro e w4 ⟨As, cs, rfl, hsp4, hb4⟩
  have hrow4 := hrow3.below hb4
  have hmk4 := hmk3.below hb4
  have hx4 := below_up hx3 hb4
  rw [HM.out]
  clear hb4 hrow3 hmk3 hx3
  go_wp2_with fail
  refine (doubt_any _ _ _ _ _ _ v m _ hrow4 hmk4 hl hlm HI.out).mono ?_
  rintro e w5 ⟨rfl, hb5⟩
  have hsp5 := hsp4.below hb5
  have hx5 := below_up hx4 hb5
  rw [HM.out]
  clear hb5 hrow4 hmk4 hx4 hsp4
  generalize tmE v m = T at *
  generalize whE v m = W at *
  generalize duE (-1) v m = D1 at *
  generalize duE 1 v m = D2 at *
  generalize spE v m = S at *
  have hlS : S.length = r.length + 1 := by rw [HR.out]; simp
  have hn0 : r.length < S.length := by omega
  obtain ⟨sb, so, rfl, _, hsb, c0⟩ := hsp5.int_at hn0
  have hlast : S[r.length] = T := by
    have h9 : S[r.length]? = some x := by rw [HR.out]; simp
    rw [List.getElem?_eq_getElem hn0] at h9
    injection h9 with h9
    rw [h9, HX.out]
  rw [hlast] at c0
  have d1 : decide (W < T) = false := by simp; omega
  have d2 : decide (T < D1) = false := by simp; omega
  have d3 : decide (D2 < T) = false := by simp; omega
  have d4 : ((S.length : Int) == 0) = false := by rw [beq_eq_false_iff_ne]; omega
  have HLS := Lib.hid hlS
  have hl1 : 1 ≤ S.length := by omega
  have HL1 : Hid (r.length = S.length - 1) := Lib.hid (by omega)
  rw [HL1.out] at c0
  clear hlast hlS
  go_wp2_with fail
  refine (isSorted_any _ _ _ S _ hsp5 (by omega) HS.out).mono ?_
  rintro e w6 ⟨rfl, hb6⟩
  have hx6 := below_up hx5 hb6
  have c0 := (World.cell?_of_block (hb6.block sb hsb)).trans c0
  have z6 : sb < w6.heap.size := Nat.lt_of_lt_of_le hsb hb6.size
  obtain ⟨j, hj⟩ : ∃ j, S.length - 1 = j := ⟨_, rfl⟩
  have wj : IntKind.i64.wrap ((S.length : Int) - 1) = (j : Int) := by rw [IntWalk.i64_in _ ⟨by omega, by omega⟩]; omega
  have hjl : j < S.length := by omega
  rw [hj] at c0
  clear hj hb6
  go_wp2_with fail
  refine (ready_any _).mono ?_
  rintro e w7 ⟨rfl, hb7⟩
  go_wp2_with fail
  go_ret
  exact ⟨rfl, below_up hx6 hb7⟩
end Go.Proofs.YtiigmolppcaplaaGreat
