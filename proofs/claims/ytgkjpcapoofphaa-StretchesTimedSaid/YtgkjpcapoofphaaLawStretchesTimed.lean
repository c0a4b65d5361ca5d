/- For every list of numbers the law StretchesTimed returns true and leaves the list as it was: its walk. -/
import Derived.Test.YtgkjpcapoofphaaEvC
import Derived.Test.YtgkjpcapoofphaaEvH
import Derived.Test.YtgkjpcapoofphaaMkC
import Derived.Deep.DeepCutAuto
namespace Go.Proofs.Ytgkjpcapoofphaa
open Go.RowKit

set_option maxHeartbeats 2000000 in
set_option maxRecDepth 100000 in
theorem stretches_walk (A : Option Addr) (n c : Nat) (w : World) (hn : n ≤ 9223372036854775807)
    (hz : ∀ k, k < n → ∃ b off z, A = some ⟨b, off, none⟩ ∧ b < w.heap.size ∧ w.cell? ⟨b, off + k, none⟩ = some (.int .i64 z) ∧ I64 z) :
    LawCall 4 A n c w := by
  have hstr := str_make (c := c) hn hz
  clear hz
  go_enter Try.func4, Try.ntmps4
  go_wp2_with fail
  refine (video_any w.heap.size 0 _ hstr (by omega)).mono ?_
  rintro e w1 ⟨Ax, cx, v, rfl, hown1, hv4, hvi, hs1, hg1⟩
  have HI := Lib.hid hvi
  have hb1 : Below w.heap.size w w1 := ((Below.refl _ _).alloc (Nat.le_refl _) _).grown hg1 (by simp) (fun k hk => by injection hk with hk; omega)
  have hrow1 := Row.of_own hown1
  rw [World.size_alloc] at hrow1
  have hl : v.length ≤ 1000000000 := by omega
  have z1 := hs1.lt
  clear hown1 hg1 hstr hvi
  go_wp2_with fail
  refine (pick_any w.heap.size _ (w.heap.size + 1) _ _ [0, 1, 5, 60, 100, -1, 10000000] _ (hs1.alloc _) (by omega) (by first | exact row_new' _ (by first | rfl | simp) (by first | omega | (simp; omega)) rfl | exact row_newN _ _ (by first | rfl | simp) (by first | omega | (simp; omega)) rfl | exact row_newD _ (by first | rfl | simp) (by first | omega | (simp; omega)) rfl) (by omega) (by simp) (by simp)).mono ?_
  rintro e w2 ⟨frame, rfl, -, hs2, hg2⟩
  have hb2 : Below w.heap.size w w2 := (hb1.alloc hb1.size _).grown hg2 (by have := hb1.size; simp; omega) (fun k hk => by injection hk with hk; omega)
  have hrow2 := (hrow1.alloc _).grown hg2 (by omega)
  have z2 := hs2.lt
  clear hg2 hb1 hrow1 hs1
  go_wp2_with fail
  refine (pick_any w.heap.size _ (w.heap.size + 1) _ _ [0, 16, 17, 33, 34, 1000, 2002, 60000, -1, 864000000] _ (hs2.alloc _) (by omega) (by first | exact row_new' _ (by first | rfl | simp) (by first | omega | (simp; omega)) rfl | exact row_newN _ _ (by first | rfl | simp) (by first | omega | (simp; omega)) rfl | exact row_newD _ (by first | rfl | simp) (by first | omega | (simp; omega)) rfl) (by omega) (by simp) (by simp)).mono ?_
  rintro e w3 ⟨time, rfl, -, hs3, hg3⟩
  have hb3 : Below w.heap.size w w3 := (hb2.alloc hb2.size _).grown hg3 (by have := hb2.size; simp; omega) (fun k hk => by injection hk with hk; omega)
  have hrow3 := (hrow2.alloc _).grown hg3 (by omega)
  clear hg3 hb2 hrow2 hs2 hs3
  go_wp2_with fail
  refine (videoFault_any _ _ _ v _ hrow3 hl HI.out).mono ?_
  rintro e w4 ⟨rfl, hb4⟩
  have hrow4 := hrow3.below hb4
  have hx4 := below_up hb3 hb4
  clear hb4 hb3 hrow3
  go_wp2_with fail
  refine (checkVideo_any _ _ _ v _ hrow4 hl HI.out).mono ?_
  rintro e w5 ⟨rfl, hb5⟩
  have hrow5 := hrow4.below hb5
  have hx5 := below_up hx4 hb5
  clear hb5 hx4 hrow4
  go_wp2_with fail
  refine (framesOf_any _ _ _ v _ hrow5 hl HI.out).mono ?_
  rintro e w6 ⟨rfl, hb6⟩
  have hrow6 := hrow5.below hb6
  have hx6 := below_up hx5 hb6
  clear hb6 hx5 hrow5
  go_wp2_with fail
  refine (momentOf_any _ _ _ v _ _ hrow6 hl HI.out).mono ?_
  rintro e w7 ⟨rfl, hb7⟩
  have hrow7 := (hrow6.below hb7).alloc (.cells #[.int .i64 (momN v frame), .int .i64 (momD v frame)] 51)
  have hx7 := (below_up hx6 hb7)
  have kb7 := Blk.new w7 51 #[.int .i64 (momN v frame), .int .i64 (momD v frame)]
  have z7 := hx7.size
  clear hb7 hx6 hrow6
  go_wp2_with fail
  refine (frameAt_any _ _ _ v _ _ hrow7 hl HI.out).mono ?_
  rintro e w8 ⟨rfl, hb8⟩
  have hrow8 := hrow7.below hb8
  have kb8 := kb7.below hb8
  have hx8 : Below w.heap.size w w8 := below_up (by repeat (first | exact hx7 | refine Below.alloc ?_ (by first | omega | (simp; omega)) _ | refine below_drewN' ?_ _ | refine Below.drew ?_)) hb8
  clear hb8 hx7 hrow7 kb7
  by_cases h0 : vFault v = 0
  · have HG := Lib.hid (vFault_ok h0)
    have H0 := Lib.hid h0
    have s1 := HG.out.sum
    have s0 := fsum_nonneg v HG.out.nonneg
    have e1 := vfR_ok h0
    have e2 : momE v frame = spanFault frame 0 (fsum v) := by simp only [momE, h0, if_true]
    have e3 : faE v time = spanFault time 0 864000000 := by simp only [faE, h0, if_true]
    rw [e1, e2, e3, h0]
    clear h0 e1 e2 e3
    go_wp2_with fail
    refine (framesIn_any _ _ _ v _ hrow8 hl HG.out.nonneg (by omega)).mono ?_
    rintro e w9 ⟨rfl, hb9⟩
    have hrow9 := hrow8.below hb9
    have kb9 := kb8.below hb9
    have hx9 := below_up hx8 hb9
    clear hb9 hx8 hrow8 kb8
    go_wp2_with fail
    refine (span_any _ _ _ _).mono ?_
    rintro e w10 ⟨rfl, rfl⟩
    go_wp2_with fail
    refine (span_any _ _ _ _).mono ?_
    rintro e w10 ⟨rfl, rfl⟩
    have z9 := hx9.size
    have kc10 := Blk.new w9 51 #[.int .i64 0, .int .i64 0]
    have hy10 : Below w9.heap.size w9 (w9.alloc (.cells #[.int .i64 0, .int .i64 0] 51)) := (Below.refl _ _).alloc (Nat.le_refl _) _
    by_cases hs : 0 ≤ frame ∧ frame ≤ fsum v
    · have q1 := span_ok hs
      obtain ⟨_, en, ed⟩ := momE_ok H0.out hs
      have EN := Lib.hid en
      have ED := Lib.hid ed
      rw [q1]
      clear q1 en ed
      go_wp2_with fail
      refine (momentAt_any _ _ _ v frame _ (hrow9.below hy10) HG.out hs.1 (by omega)).mono ?_
      rintro e wA ⟨rfl, hbA⟩
      have hyA := below_up hy10 hbA
      have kcA := kc10.below hbA
      clear hbA hy10 kc10 hs
      have k0 := kcA.cell 0
      have k1 := kcA.cell 1
      have kf0 := kcA.froze 0
      have kf1 := kcA.froze 1
      rw [← EN.out, ← ED.out]
      go_upto_if 101 with fail
      have hyB : Below w9.heap.size w9 ((wA.setCell ⟨w9.heap.size, 0, none⟩ (.int .i64 (momN v frame))).setCell ⟨w9.heap.size, 1, none⟩ (.int .i64 (momD v frame))) := Below.setCell (Below.setCell hyA (Nat.le_refl _) _) (Nat.le_refl _) _
      have kcB : Blk ((wA.setCell ⟨w9.heap.size, 0, none⟩ (.int .i64 (momN v frame))).setCell ⟨w9.heap.size, 1, none⟩ (.int .i64 (momD v frame))) w9.heap.size 51 #[.int .i64 (momN v frame), .int .i64 (momD v frame)] := (kcA.set 0 _).set 1 _
      generalize ((wA.setCell ⟨w9.heap.size, 0, none⟩ (.int .i64 (momN v frame))).setCell ⟨w9.heap.size, 1, none⟩ (.int .i64 (momD v frame))) = wB at *
      clear hyA kcA k0 k1 kf0 kf1
      by_cases ht : 0 ≤ time ∧ time ≤ 864000000
      · have q2 := span_ok ht
        have q3 := (fa_ok H0.out ht).2
        rw [q2, q3]
        clear q2 q3
        go_wp2_with fail
        refine (frameSeen_any _ _ _ v time _ (hrow9.below hyB) HG.out ht.1 ht.2).mono ?_
        rintro e wF ⟨rfl, hbF⟩
        have hyF := below_up hyB hbF
        have kcF := kcB.below hbF
        clear hbF hyB kcB ht
        generalize seenR v (seenL v time) = r at *
        rcases Int.lt_trichotomy r 0 with hr | hr | hr
        · have d1 : decide (0 ≤ r) = false := by simp; omega
          have D1 := Lib.hid d1
          have d2 : max r 0 = 0 := by omega
          rw [d1, d2]
          clear d1 d2
          go_wp2_with fail
          refine (framesIn_any _ _ _ v _ (hrow9.below hyF) hl HG.out.nonneg (by omega)).mono ?_
          rintro e wG ⟨rfl, hbG⟩
          have hyG := below_up hyF hbG
          have kcG := kcF.below hbG
          have kbG := kb9.below hyG
          have a0 : wG.cell? ⟨w7.heap.size, 0, none⟩ = some (.int .i64 (momN v frame)) := kbG.cell 0
          have a1 : wG.cell? ⟨w7.heap.size, 1, none⟩ = some (.int .i64 (momD v frame)) := kbG.cell 1
          have b0 : wG.cell? ⟨w9.heap.size, 0, none⟩ = some (.int .i64 (momN v frame)) := kcG.cell 0
          have b1 : wG.cell? ⟨w9.heap.size, 1, none⟩ = some (.int .i64 (momD v frame)) := kcG.cell 1
          clear hbG hyF kcF kcG kbG
          go_wp2_with fail
          refine (filmed_any _).mono ?_
          rintro e wH ⟨rfl, hbH⟩
          go_wp2_with fail
          go_ret
          exact ⟨(by first | rfl | exact ret_bool' (by rw [D1.out]; rfl)), below_up (below_up hx9 hyG) hbH⟩
        · subst hr
          have d1 : decide ((0 : Int) ≤ 0) = true := by decide
          have d2 : max (0 : Int) 0 = 0 := by decide
          rw [d1, d2]
          clear d1 d2
          go_wp2_with fail
          refine (framesIn_any _ _ _ v _ (hrow9.below hyF) hl HG.out.nonneg (by omega)).mono ?_
          rintro e wG ⟨rfl, hbG⟩
          have hyG := below_up hyF hbG
          have kcG := kcF.below hbG
          have kbG := kb9.below hyG
          have a0 : wG.cell? ⟨w7.heap.size, 0, none⟩ = some (.int .i64 (momN v frame)) := kbG.cell 0
          have a1 : wG.cell? ⟨w7.heap.size, 1, none⟩ = some (.int .i64 (momD v frame)) := kbG.cell 1
          have b0 : wG.cell? ⟨w9.heap.size, 0, none⟩ = some (.int .i64 (momN v frame)) := kcG.cell 0
          have b1 : wG.cell? ⟨w9.heap.size, 1, none⟩ = some (.int .i64 (momD v frame)) := kcG.cell 1
          clear hbG hyF kcF kcG kbG
          go_wp2_with fail
          refine (filmed_any _).mono ?_
          rintro e wH ⟨rfl, hbH⟩
          go_wp2_with fail
          go_ret
          exact ⟨(by first | rfl | exact ret_bool' (by rw [D1.out]; rfl)), below_up (below_up hx9 hyG) hbH⟩
        · have d1 : decide (0 ≤ r) = true := by simp; omega
          have d2 : max r 0 = r := by omega
          rw [d1, d2]
          clear d1 d2
          go_wp2_with fail
          refine (framesIn_any _ _ _ v _ (hrow9.below hyF) hl HG.out.nonneg (by omega)).mono ?_
          rintro e wG ⟨rfl, hbG⟩
          have hyG := below_up hyF hbG
          have kcG := kcF.below hbG
          have kbG := kb9.below hyG
          have a0 : wG.cell? ⟨w7.heap.size, 0, none⟩ = some (.int .i64 (momN v frame)) := kbG.cell 0
          have a1 : wG.cell? ⟨w7.heap.size, 1, none⟩ = some (.int .i64 (momD v frame)) := kbG.cell 1
          have b0 : wG.cell? ⟨w9.heap.size, 0, none⟩ = some (.int .i64 (momN v frame)) := kcG.cell 0
          have b1 : wG.cell? ⟨w9.heap.size, 1, none⟩ = some (.int .i64 (momD v frame)) := kcG.cell 1
          clear hbG hyF kcF kcG kbG
          go_wp2_with fail
          refine (filmed_any _).mono ?_
          rintro e wH ⟨rfl, hbH⟩
          go_wp2_with fail
          go_ret
          exact ⟨(by first | rfl | exact ret_bool' (by rw [D1.out]; rfl)), below_up (below_up hx9 hyG) hbH⟩
      · have q2 := span_bad ht
        have q3 := (fa_span H0.out ht).2
        have d1 : decide ((0 : Int) ≤ -1) = false := by decide
        have d2 : max (-1 : Int) 0 = 0 := by decide
        rw [q2, q3, d1, d2]
        clear q2 q3 ht d1 d2
        have hyF := hyB
        have kcF := kcB
        clear hyB kcB
        go_wp2_with fail
        refine (framesIn_any _ _ _ v _ (hrow9.below hyF) hl HG.out.nonneg (by omega)).mono ?_
        rintro e wG ⟨rfl, hbG⟩
        have hyG := below_up hyF hbG
        have kcG := kcF.below hbG
        have kbG := kb9.below hyG
        have a0 : wG.cell? ⟨w7.heap.size, 0, none⟩ = some (.int .i64 (momN v frame)) := kbG.cell 0
        have a1 : wG.cell? ⟨w7.heap.size, 1, none⟩ = some (.int .i64 (momD v frame)) := kbG.cell 1
        have b0 : wG.cell? ⟨w9.heap.size, 0, none⟩ = some (.int .i64 (momN v frame)) := kcG.cell 0
        have b1 : wG.cell? ⟨w9.heap.size, 1, none⟩ = some (.int .i64 (momD v frame)) := kcG.cell 1
        clear hbG hyF kcF kcG kbG
        go_wp2_with fail
        refine (filmed_any _).mono ?_
        rintro e wH ⟨rfl, hbH⟩
        go_wp2_with fail
        go_ret
        exact ⟨(by first | rfl | exact ret_bool' (by rw [D1.out]; rfl)), below_up (below_up hx9 hyG) hbH⟩
    · have q1 := span_bad hs
      obtain ⟨_, en, ed⟩ := momE_span H0.out hs
      have EN := Lib.hid en
      have ED := Lib.hid ed
      rw [q1]
      clear q1 en ed hs
      go_upto_if 101 with fail
      have hyB := hy10
      have kcB : Blk (w9.alloc (.cells #[.int .i64 0, .int .i64 0] 51)) w9.heap.size 51 #[.int .i64 (momN v frame), .int .i64 (momD v frame)] := by rw [EN.out, ED.out]; exact kc10
      generalize (w9.alloc (.cells #[.int .i64 0, .int .i64 0] 51)) = wB at *
      clear hy10 kc10
      by_cases ht : 0 ≤ time ∧ time ≤ 864000000
      · have q2 := span_ok ht
        have q3 := (fa_ok H0.out ht).2
        rw [q2, q3]
        clear q2 q3
        go_wp2_with fail
        refine (frameSeen_any _ _ _ v time _ (hrow9.below hyB) HG.out ht.1 ht.2).mono ?_
        rintro e wF ⟨rfl, hbF⟩
        have hyF := below_up hyB hbF
        have kcF := kcB.below hbF
        clear hbF hyB kcB ht
        generalize seenR v (seenL v time) = r at *
        rcases Int.lt_trichotomy r 0 with hr | hr | hr
        · have d1 : decide (0 ≤ r) = false := by simp; omega
          have D1 := Lib.hid d1
          have d2 : max r 0 = 0 := by omega
          rw [d1, d2]
          clear d1 d2
          go_wp2_with fail
          refine (framesIn_any _ _ _ v _ (hrow9.below hyF) hl HG.out.nonneg (by omega)).mono ?_
          rintro e wG ⟨rfl, hbG⟩
          have hyG := below_up hyF hbG
          have kcG := kcF.below hbG
          have kbG := kb9.below hyG
          have a0 : wG.cell? ⟨w7.heap.size, 0, none⟩ = some (.int .i64 (momN v frame)) := kbG.cell 0
          have a1 : wG.cell? ⟨w7.heap.size, 1, none⟩ = some (.int .i64 (momD v frame)) := kbG.cell 1
          have b0 : wG.cell? ⟨w9.heap.size, 0, none⟩ = some (.int .i64 (momN v frame)) := kcG.cell 0
          have b1 : wG.cell? ⟨w9.heap.size, 1, none⟩ = some (.int .i64 (momD v frame)) := kcG.cell 1
          clear hbG hyF kcF kcG kbG
          go_wp2_with fail
          refine (filmed_any _).mono ?_
          rintro e wH ⟨rfl, hbH⟩
          go_wp2_with fail
          go_ret
          exact ⟨(by first | rfl | exact ret_bool' (by rw [D1.out]; rfl)), below_up (below_up hx9 hyG) hbH⟩
        · subst hr
          have d1 : decide ((0 : Int) ≤ 0) = true := by decide
          have d2 : max (0 : Int) 0 = 0 := by decide
          rw [d1, d2]
          clear d1 d2
          go_wp2_with fail
          refine (framesIn_any _ _ _ v _ (hrow9.below hyF) hl HG.out.nonneg (by omega)).mono ?_
          rintro e wG ⟨rfl, hbG⟩
          have hyG := below_up hyF hbG
          have kcG := kcF.below hbG
          have kbG := kb9.below hyG
          have a0 : wG.cell? ⟨w7.heap.size, 0, none⟩ = some (.int .i64 (momN v frame)) := kbG.cell 0
          have a1 : wG.cell? ⟨w7.heap.size, 1, none⟩ = some (.int .i64 (momD v frame)) := kbG.cell 1
          have b0 : wG.cell? ⟨w9.heap.size, 0, none⟩ = some (.int .i64 (momN v frame)) := kcG.cell 0
          have b1 : wG.cell? ⟨w9.heap.size, 1, none⟩ = some (.int .i64 (momD v frame)) := kcG.cell 1
          clear hbG hyF kcF kcG kbG
          go_wp2_with fail
          refine (filmed_any _).mono ?_
          rintro e wH ⟨rfl, hbH⟩
          go_wp2_with fail
          go_ret
          exact ⟨(by first | rfl | exact ret_bool' (by rw [D1.out]; rfl)), below_up (below_up hx9 hyG) hbH⟩
        · have d1 : decide (0 ≤ r) = true := by simp; omega
          have d2 : max r 0 = r := by omega
          rw [d1, d2]
          clear d1 d2
          go_wp2_with fail
          refine (framesIn_any _ _ _ v _ (hrow9.below hyF) hl HG.out.nonneg (by omega)).mono ?_
          rintro e wG ⟨rfl, hbG⟩
          have hyG := below_up hyF hbG
          have kcG := kcF.below hbG
          have kbG := kb9.below hyG
          have a0 : wG.cell? ⟨w7.heap.size, 0, none⟩ = some (.int .i64 (momN v frame)) := kbG.cell 0
          have a1 : wG.cell? ⟨w7.heap.size, 1, none⟩ = some (.int .i64 (momD v frame)) := kbG.cell 1
          have b0 : wG.cell? ⟨w9.heap.size, 0, none⟩ = some (.int .i64 (momN v frame)) := kcG.cell 0
          have b1 : wG.cell? ⟨w9.heap.size, 1, none⟩ = some (.int .i64 (momD v frame)) := kcG.cell 1
          clear hbG hyF kcF kcG kbG
          go_wp2_with fail
          refine (filmed_any _).mono ?_
          rintro e wH ⟨rfl, hbH⟩
          go_wp2_with fail
          go_ret
          exact ⟨(by first | rfl | exact ret_bool' (by rw [D1.out]; rfl)), below_up (below_up hx9 hyG) hbH⟩
      · have q2 := span_bad ht
        have q3 := (fa_span H0.out ht).2
        have d1 : decide ((0 : Int) ≤ -1) = false := by decide
        have d2 : max (-1 : Int) 0 = 0 := by decide
        rw [q2, q3, d1, d2]
        clear q2 q3 ht d1 d2
        have hyF := hyB
        have kcF := kcB
        clear hyB kcB
        go_wp2_with fail
        refine (framesIn_any _ _ _ v _ (hrow9.below hyF) hl HG.out.nonneg (by omega)).mono ?_
        rintro e wG ⟨rfl, hbG⟩
        have hyG := below_up hyF hbG
        have kcG := kcF.below hbG
        have kbG := kb9.below hyG
        have a0 : wG.cell? ⟨w7.heap.size, 0, none⟩ = some (.int .i64 (momN v frame)) := kbG.cell 0
        have a1 : wG.cell? ⟨w7.heap.size, 1, none⟩ = some (.int .i64 (momD v frame)) := kbG.cell 1
        have b0 : wG.cell? ⟨w9.heap.size, 0, none⟩ = some (.int .i64 (momN v frame)) := kcG.cell 0
        have b1 : wG.cell? ⟨w9.heap.size, 1, none⟩ = some (.int .i64 (momD v frame)) := kcG.cell 1
        clear hbG hyF kcF kcG kbG
        go_wp2_with fail
        refine (filmed_any _).mono ?_
        rintro e wH ⟨rfl, hbH⟩
        go_wp2_with fail
        go_ret
        exact ⟨(by first | rfl | exact ret_bool' (by rw [D1.out]; rfl)), below_up (below_up hx9 hyG) hbH⟩
  · have h0' : (vFault v != 0) = true := by simpa using h0
    have e1 := vfR_bad h0
    obtain ⟨e2, e3, e4⟩ := momE_bad (f := frame) h0
    obtain ⟨e5, e6⟩ := fa_bad (time := time) h0
    rw [e2, e5, e6, e1]
    rw [e3, e4] at kb8
    rw [e3, e4]
    clear h0 e1 e2 e3 e4 e5 e6
    have k0 : w8.cell? ⟨w7.heap.size, 0, none⟩ = some (.int .i64 0) := kb8.cell 0
    have k1 : w8.cell? ⟨w7.heap.size, 1, none⟩ = some (.int .i64 0) := kb8.cell 1
    generalize vFault v = f at *
    have d1 : decide ((0 : Int) ≤ -1) = false := by decide
    have d2 : max (-1 : Int) 0 = 0 := by decide
    rw [d1, d2]
    go_wp2_with fail
    refine (filmed_any _).mono ?_
    rintro e w9 ⟨rfl, hb9⟩
    go_wp2_with fail
    go_ret
    exact ⟨rfl, below_up hx8 hb9⟩
end Go.Proofs.Ytgkjpcapoofphaa
