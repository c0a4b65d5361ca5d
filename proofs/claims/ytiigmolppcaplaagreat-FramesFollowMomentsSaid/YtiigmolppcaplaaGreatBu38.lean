/- Texts of this seat, laid together: LawFramesFollowMoments. -/
import Derived.Test.YtiigmolppcaplaaGreatBu25
import Derived.Test.YtiigmolppcaplaaGreatBu37
import Derived.Test.YtiigmolppcaplaaGreatBu35
import Derived.Test.YtiigmolppcaplaaGreatBu26
import Derived.Test.YtiigmolppcaplaaGreatBu27
/- For every list of numbers the law FramesFollowMoments returns true and leaves the list as it was: its walk. -/
namespace Go.Proofs.YtiigmolppcaplaaGreat
set_option linter.unusedVariables false
set_option linter.unusedSimpArgs false
open Go.RowKit

set_option maxHeartbeats 4000000 in
set_option maxRecDepth 100000 in
theorem moments_walk (A : Option Addr) (n c : Nat) (w : World) (hn : n ≤ 9223372036854775807)
    (hz : ∀ k, k < n → ∃ b off z, A = some ⟨b, off, none⟩ ∧ b < w.heap.size ∧ w.cell? ⟨b, off + k, none⟩ = some (.int .i64 z) ∧ I64 z) :
    LawCall 3 A n c w := by
  have hstr := str_make (c := c) hn hz
  clear hz
  go_enter Tryz.func3, Tryz.ntmps3
  go_wp2_with fail
  refine (rightVideo_any w.heap.size 0 _ hstr (by omega)).mono ?_
  rintro e w1 ⟨Ax, cx, v, Bx, dx, m, rfl, hrow1, -, hv4, -, hmk, hvi, hs1, hg1⟩
  have hb1 : Below w.heap.size w w1 := ((Below.refl _ _).alloc (Nat.le_refl _) _).grown hg1 (by simp) (fun k hk => by injection hk with hk; omega)
  rw [World.size_alloc] at hrow1
  have hl : v.length ≤ 1000000000 := by omega
  have z1 := hs1.lt
  have HI := Lib.hid hvi
  have hv0 := (mkFault_zero hmk).1
  have HV := Lib.hid hv0
  have HG := Lib.hid (vFault_ok hv0)
  have HFR := Lib.hid (vfR_ok hv0)
  have hsum := HG.out.sum
  clear hg1 hstr hvi hmk hv0
  go_wp2_with fail
  refine (framesOf_any _ _ _ v _ hrow1 hl HI.out).mono ?_
  rintro e w2 ⟨rfl, hb2⟩
  have hrow2 := hrow1.below hb2
  have hx2 := below_up hb1 hb2
  have hs2 := hs1.keep hb2
  rw [HV.out, HFR.out]
  clear hb2 hrow1 hb1 hs1
  by_cases hn1 : fsum v < 1
  · go_wp2_with fail
    refine (ready_any _).mono ?_
    rintro e w3 ⟨rfl, hb3⟩
    go_wp2_with fail
    go_ret
    exact ⟨rfl, below_up hx2 hb3⟩
  · have hn1' : decide (fsum v < 1) = false := by simpa using hn1
    go_wp2_with fail
    refine (next_any w.heap.size _ _ _ hs2 (by omega) (by omega)).mono ?_
    rintro e w3 ⟨k, rfl, r0, r1, _, hs3, hg3⟩
    have r2 := r1 (by omega)
    have hx3 : Below w.heap.size w w3 := hx2.grown hg3 hx2.size (fun k hk => by injection hk with hk; omega)
    have hrow3 := hrow2.grown hg3 (by omega)
    clear hg3 hx2 hrow2 hs2 hs3 r1
    obtain ⟨e1, e2, e3⟩ := momE_ok HV.out (show 0 ≤ k ∧ k ≤ fsum v by omega)
    obtain ⟨f1, f2, f3⟩ := momE_ok HV.out (show 0 ≤ k + 1 ∧ k + 1 ≤ fsum v by omega)
    have bb := begM_bd HG.out k
    have bb' := begM_bd HG.out (k + 1)
    have hm1 := HG.out.mbd
    have hm2 := HG.out.mul
    obtain ⟨gg, g1, _, _, p0, q1, p2, q2⟩ := fr_parts (begM v k) (multK v) bb.1 hm1
    obtain ⟨gg', g1', _, _, p0', q1', p2', q2'⟩ := fr_parts (begM v (k + 1)) (multK v) bb'.1 hm1
    have HLT := Lib.hid (fr_lt bb.1 bb'.1 hm1 (begM_lt HG.out k r0 r2))
    have HSB := Lib.hid (fun t => seen_begins HG.out k t r0 r2)
    generalize frN (begM v k) (multK v) = an at *
    generalize frD (begM v k) (multK v) = ad at *
    generalize frN (begM v (k + 1)) (multK v) = bn at *
    generalize frD (begM v (k + 1)) (multK v) = bd at *
    have E1 := Lib.hid e1
    have E2 := Lib.hid e2
    have E3 := Lib.hid e3
    have F1 := Lib.hid f1
    have F2 := Lib.hid f2
    have F3 := Lib.hid f3
    clear e1 e2 e3 f1 f2 f3
    go_wp2_with fail
    refine (momentOf_any _ _ _ v k _ hrow3 hl HI.out).mono ?_
    rintro e w4 ⟨rfl, hb4⟩
    have hrow4 := hrow3.below hb4
    have hx4 := below_up hx3 hb4
    rw [E1.out, E2.out, E3.out]
    clear hb4 hx3 hrow3
    have wk : IntKind.i64.wrap (k + 1) = k + 1 := IntWalk.i64_in _ ⟨by omega, by omega⟩
    go_wp2_with fail
    have ha4 : Blk (w4.alloc (.cells #[.int .i64 an, .int .i64 ad] 36)) w4.heap.size 36 #[.int .i64 an, .int .i64 ad] := Blk.new _ _ _
    refine (momentOf_any _ _ _ v (k + 1) _ (hrow4.alloc _) hl HI.out).mono ?_
    rintro e w5 ⟨rfl, hb5⟩
    have hrow5 := (hrow4.alloc _).below hb5
    have hx5 := below_up (hx4.alloc hx4.size _) hb5
    have ha5 := ha4.below hb5
    rw [F1.out, F2.out, F3.out]
    generalize w4.heap.size = ab at *
    clear hb5 hx4 hrow4 ha4 E1 E2 E3 F1 F2 F3
    obtain ⟨na, rfl⟩ := Int.eq_ofNat_of_zero_le p0
    obtain ⟨da, rfl⟩ := Int.eq_ofNat_of_zero_le (show 0 ≤ ad by omega)
    obtain ⟨nb, rfl⟩ := Int.eq_ofNat_of_zero_le p0'
    obtain ⟨db, rfl⟩ := Int.eq_ofNat_of_zero_le (show 0 ≤ bd by omega)
    have hlt : na * db < nb * da := by have := HLT.out; exact_mod_cast this
    have HL := Lib.hid hlt
    clear hlt HLT
    obtain ⟨c0, c1⟩ : w5.cell? ⟨ab, 0, none⟩ = some (.int .i64 na) ∧ w5.cell? ⟨ab, 1, none⟩ = some (.int .i64 da) := ⟨by simpa using ha5.cell 0, by simpa using ha5.cell 1⟩
    have za := ha5.lt
    go_wp2_with fail
    refine (before_yes na da nb db (by omega) (by omega) (by omega) (by omega) HL.out _).mono ?_
    rintro e w6 ⟨rfl, hb6⟩
    have hrow6 := (hrow5.alloc _).below hb6
    have hx6 := below_up (hx5.alloc hx5.size _) hb6
    have ha6 := (ha5.alloc _).below hb6
    clear hb6 hx5 hrow5 ha5 c0 c1 za HL wk
    obtain ⟨c0, c1⟩ : w6.cell? ⟨ab, 0, none⟩ = some (.int .i64 na) ∧ w6.cell? ⟨ab, 1, none⟩ = some (.int .i64 da) := ⟨by simpa using ha6.cell 0, by simpa using ha6.cell 1⟩
    have za := ha6.lt
    have wm : IntKind.i64.wrap ((na : Int) * 1000) = (na : Int) * 1000 := IntWalk.i64_in _ ⟨by omega, by omega⟩
    have td : ((na : Int) * 1000).tdiv (da : Int) = (na : Int) * 1000 / (da : Int) := Int.tdiv_eq_ediv_of_nonneg (by omega)
    have tm : ((na : Int) * 1000).tmod (da : Int) = (na : Int) * 1000 % (da : Int) := Int.tmod_eq_emod_of_nonneg (by omega)
    have d0 : ¬ (da : Int) = 0 := by omega
    have d0' : ¬ da = 0 := by omega
    have b1 : 0 ≤ (na : Int) * 1000 / (da : Int) := Int.ediv_nonneg (by omega) (by omega)
    have b2 : (na : Int) * 1000 / (da : Int) ≤ (na : Int) * 1000 := Int.ediv_le_self _ (by omega)
    have b3 : 0 ≤ (na : Int) * 1000 % (da : Int) := Int.emod_nonneg _ d0
    have b4 : (na : Int) * 1000 % (da : Int) < (da : Int) := Int.emod_lt_of_pos _ (by omega)
    have wd : IntKind.i64.wrap ((na : Int) * 1000 / (da : Int)) = (na : Int) * 1000 / (da : Int) := IntWalk.i64_in _ ⟨by omega, by omega⟩
    have wr : IntKind.i64.wrap ((na : Int) * 1000 % (da : Int)) = (na : Int) * 1000 % (da : Int) := IntWalk.i64_in _ ⟨by omega, by omega⟩
    have HE : Hid ((na : Int) * 1000 % (da : Int) = 0 → (na : Int) * 1000 / (da : Int) * da = na * 1000) := Lib.hid (fun h => Int.ediv_mul_cancel_of_emod_eq_zero h)
    generalize (na : Int) * 1000 % (da : Int) = rr at *
    generalize (na : Int) * 1000 / (da : Int) = tt at *
    by_cases hrr : rr = 0
    · subst hrr
      by_cases htt : tt ≤ 864000000
      · have q2 : decide (864000000 < tt) = false := by simp; omega
        have hfa := fa_ok HV.out (show 0 ≤ tt ∧ tt ≤ 864000000 from ⟨b1, htt⟩)
        have hsee := (HSB.out tt (HE.out rfl)).eq HG.out
        have HF1 := Lib.hid hfa.1
        have HF2 : Hid (faR v tt = k) := Lib.hid (hfa.2.trans hsee)
        clear hfa hsee htt HE
        go_wp2_with fail
        refine (frameAt_any _ _ _ v tt _ hrow6 hl HI.out).mono ?_
        rintro e w7 ⟨rfl, hb7⟩
        have hx7 := below_up hx6 hb7
        rw [HF1.out, HF2.out]
        have m1 : max k 0 = k := by omega
        have m2 : decide (0 ≤ k) = true := by simp; omega
        rw [m1, m2]
        clear hb7
        go_wp2_with fail
        refine (ready_any _).mono ?_
        rintro e w8 ⟨rfl, hb8⟩
        go_wp2_with fail
        go_ret
        exact ⟨rfl, below_up hx7 hb8⟩
      · have q2 : decide (864000000 < tt) = true := by simp; omega
        clear htt HE
        go_wp2_with fail
        refine (ready_any _).mono ?_
        rintro e w8 ⟨rfl, hb8⟩
        go_wp2_with fail
        go_ret
        exact ⟨rfl, below_up hx6 hb8⟩
    · have q1 : (rr == 0) = false := by simpa using hrr
      clear HE
      go_wp2_with fail
      refine (ready_any _).mono ?_
      rintro e w8 ⟨rfl, hb8⟩
      go_wp2_with fail
      go_ret
      exact ⟨rfl, below_up hx6 hb8⟩
end Go.Proofs.YtiigmolppcaplaaGreat
