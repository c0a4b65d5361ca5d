/- Texts of this seat, laid together: LawChancesExact. -/
import Derived.Test.YtapjahbflhingaaGreatDoorBu71
import Derived.Test.YtapjahbflhingaaGreatDoorBu19
import Derived.Test.YtapjahbflhingaaGreatDoorBu61
/- For every list of numbers the law ChancesExact returns true and leaves the list as it was, where the powers of ten lie in their table: its walk. -/
namespace Go.Proofs.YtapjahbflhingaaGreatDoor
set_option linter.unusedVariables false
set_option linter.unusedSimpArgs false
open Go.RowKit Go.Sort

set_option maxHeartbeats 8000000 in
set_option maxRecDepth 100000 in
theorem exact_walk (A : Option Addr) (n c : Nat) (w : World) (hn : n ≤ 9223372036854775807)
    (hz : ∀ k, k < n → ∃ b off z, A = some ⟨b, off, none⟩ ∧ b < w.heap.size ∧ w.cell? ⟨b, off + k, none⟩ = some (.int .i64 z) ∧ I64 z) (htab : Pow w) :
    LawCall 3 A n c w := by
  have hstr := str_make (c := c) hn hz
  clear hz
  have hb0 : Below w.heap.size w (w.alloc (.cells #[.slice A n c, .int .i64 0] 25)) := (Below.refl _ _).alloc (Nat.le_refl _) _
  have hz0 : (w.alloc (.cells #[.slice A n c, .int .i64 0] 25)).heap.size = w.heap.size + 1 := by simp
  go_enter Tryz.func3, Tryz.ntmps3
  go_wp2_with fail
  generalize w.alloc (.cells #[.slice A n c, .int .i64 0] 25) = w0 at *
  have HZ0 := Lib.hid hz0
  clear hz0
  refine (history_any w.heap.size 0 _ hstr (by omega)).mono ?_
  rintro e w1 ⟨SA, TA, c', d', segs, atts, rfl, hh, hc, n1, n4, hm, hl, hsl, hs1, hg1⟩
  have hz9 : HistSz segs atts c' := ⟨hc, by omega, by omega, fun i h => by have := hl i h; omega, fun s hs => by have := hsl s hs; omega⟩
  clear hl hsl
  go_wp2_with fail
  refine (pick_any w.heap.size _ _ _ _ [0, 5, 20, 30, 45, 300, 864000000, -1] _ (hs1.alloc _) (by omega) (row_new _ _ _ _ _ _ (Nat.le_refl _) rfl) hs1.lt (by simp) (by simp)).mono ?_
  rintro e w2 ⟨t, rfl, -, hs2, hg2⟩
  have hgl : w.heap.size < w0.heap.size := by have := HZ0.out; omega
  have hh := (hh.alloc (.cells #[.int .i64 0, .int .i64 5, .int .i64 20, .int .i64 30, .int .i64 45, .int .i64 300, .int .i64 864000000, .int .i64 (-1)] 3)).stream hg2 hgl
  have hgr := grown_trans' (grown_alloc hg1 (.cells #[.int .i64 0, .int .i64 5, .int .i64 20, .int .i64 30, .int .i64 45, .int .i64 300, .int .i64 864000000, .int .i64 (-1)] 3)) hg2
  have hx : Below w.heap.size w w2 := hb0.grown hgr (by omega) (fun k hk => by injection hk with hk; omega)
  clear hs1 hg1 hs2 hg2 hgr hb0 hstr
  go_wp2_with fail
  have hk : Blk (w2.alloc (.cells #[.slice SA segs.length c', .slice TA atts.length d'] 29)) w2.heap.size 29 #[.slice SA segs.length c', .slice TA atts.length d'] := Blk.new _ _ _
  have hh := hh.alloc (.cells #[.slice SA segs.length c', .slice TA atts.length d'] 29)
  have hx := below_up hx ((Below.refl _ _).alloc (Nat.le_refl _) (.cells #[.slice SA segs.length c', .slice TA atts.length d'] 29))
  generalize w2.alloc (.cells #[.slice SA segs.length c', .slice TA atts.length d'] 29) = W at *
  generalize w2.heap.size = bx at *
  obtain ⟨q0, q1⟩ := hk.two_
  have hz := hk.lt
  refine (historyFault_any SA TA c' d' _ segs atts _ hh hz9.hc hz9.h9 hz9.h8 hz9.h7 hz9.h6).mono ?_
  rintro e w1 ⟨rfl, hb⟩
  clear q0 q1 hz
  have hh := hh.below hb
  have hk := hk.below hb
  have hx := below_up hx hb
  obtain ⟨q0, q1⟩ := hk.two_
  have hz := hk.lt
  clear hb
  by_cases hf : histF segs atts = 0
  · have HO := Lib.hid (histF_ok hf)
    rw [hf]
    clear hf
    go_wp2_with fail
    refine (Save_ok SA TA c' d' _ segs atts _ hh hc HO.out (htab.below hx)).mono ?_
    rintro e wa ⟨A1, c1, rfl, hP, hb⟩
    clear q0 q1 hz
    have hh := hh.below hb
    have hk := hk.below hb
    have hx := below_up hx hb
    obtain ⟨q0, q1⟩ := hk.two_
    have hz := hk.lt
    clear hb
    have hP := hP.weak (Nat.zero_le _)
    go_wp2_with fail
    refine (Losses_ok SA TA c' d' _ segs atts _ hh hc HO.out).mono ?_
    rintro e wb ⟨A2, c2, rfl, ho, hb⟩
    clear q0 q1 hz
    have hh := hh.below hb
    have hk := hk.below hb
    have hx := below_up hx hb
    obtain ⟨q0, q1⟩ := hk.two_
    have hz := hk.lt
    have hP := hP.below hb
    clear hb
    have hQ := (Row.of_own ho).weak (Nat.zero_le _)
    clear ho
    go_wp2_with fail
    refine (Finishes_ok SA TA c' d' _ segs atts _ hh hc HO.out).mono ?_
    rintro e wc ⟨rfl, hb⟩
    clear q0 q1 hz
    have hh := hh.below hb
    have hk := hk.below hb
    have hx := below_up hx hb
    obtain ⟨q0, q1⟩ := hk.two_
    have hz := hk.lt
    have hP := hP.below hb
    have hQ := hQ.below hb
    clear hb
    generalize hf1 : fiN segs.length atts = f1 at *
    generalize hf2 : fiD segs.length atts = f2 at *
    have HF1 := Lib.hid hf1
    have HF2 := Lib.hid hf2
    clear hf1 hf2
    go_wp2_with fail
    have kf : Blk (wc.alloc (.cells #[.int .i64 f1, .int .i64 f2] 41)) wc.heap.size 41 #[.int .i64 f1, .int .i64 f2] := Blk.new _ _ _
    have hh := hh.alloc (.cells #[.int .i64 f1, .int .i64 f2] 41)
    have hk := hk.alloc (.cells #[.int .i64 f1, .int .i64 f2] 41)
    have hx := below_up hx ((Below.refl _ _).alloc (Nat.le_refl _) (.cells #[.int .i64 f1, .int .i64 f2] 41))
    have hP := hP.alloc (.cells #[.int .i64 f1, .int .i64 f2] 41)
    have hQ := hQ.alloc (.cells #[.int .i64 f1, .int .i64 f2] 41)
    clear q0 q1 hz
    obtain ⟨q0, q1⟩ := hk.two_
    have hz := hk.lt
    generalize wc.alloc (.cells #[.int .i64 f1, .int .i64 f2] 41) = wcx at *
    generalize wc.heap.size = bf at *
    refine (Chance_un SA TA c' d' _ t segs atts _ hh hc HO.out n4 hm).mono ?_
    rintro e wd ⟨rfl, hb⟩
    clear q0 q1 hz
    have hh := hh.below hb
    have hk := hk.below hb
    have hx := below_up hx hb
    obtain ⟨q0, q1⟩ := hk.two_
    have hz := hk.lt
    have hP := hP.below hb
    have hQ := hQ.below hb
    have kf := kf.below hb
    clear hb
    generalize hx1 : chA segs atts t = x1 at *
    generalize hx2 : chB segs atts t = x2 at *
    generalize hx3 : chT segs atts t = x3 at *
    have HX : Hid (chF t ≠ 0 → x1 = 0 ∧ x2 = 0 ∧ x3 = false) := Lib.hid (fun h => by rw [← hx1, ← hx2, ← hx3]; exact ⟨by unfold chA; rw [if_pos h], by unfold chB; rw [if_pos h], by unfold chT; rw [decide_eq_false h]; rfl⟩)
    have HX1 := Lib.hid hx1
    have HX2 := Lib.hid hx2
    have HX3 := Lib.hid hx3
    clear hx1 hx2 hx3
    go_wp2_with fail
    have kc : Blk (wd.alloc (.cells #[.int .i64 x1, .int .i64 x2] 41)) wd.heap.size 41 #[.int .i64 x1, .int .i64 x2] := Blk.new _ _ _
    have hh := hh.alloc (.cells #[.int .i64 x1, .int .i64 x2] 41)
    have hk := hk.alloc (.cells #[.int .i64 x1, .int .i64 x2] 41)
    have hx := below_up hx ((Below.refl _ _).alloc (Nat.le_refl _) (.cells #[.int .i64 x1, .int .i64 x2] 41))
    have hP := hP.alloc (.cells #[.int .i64 x1, .int .i64 x2] 41)
    have hQ := hQ.alloc (.cells #[.int .i64 x1, .int .i64 x2] 41)
    have kf := kf.alloc (.cells #[.int .i64 x1, .int .i64 x2] 41)
    clear q0 q1 hz
    obtain ⟨q0, q1⟩ := hk.two_
    have hz := hk.lt
    generalize wd.alloc (.cells #[.int .i64 x1, .int .i64 x2] 41) = wdx at *
    generalize wd.heap.size = bc at *
    go_wp2_with fail
    refine (saveOf_any SA TA c' d' _ segs atts _ hh HO.out (htab.below hx)).mono ?_
    rintro e we ⟨A3, c3, rfl, hP2, hb⟩
    clear q0 q1 hz
    have hh := hh.below hb
    have hk := hk.below hb
    have hx := below_up hx hb
    obtain ⟨q0, q1⟩ := hk.two_
    have hz := hk.lt
    have hP := hP.below hb
    have hQ := hQ.below hb
    have kf := kf.below hb
    have kc := kc.below hb
    clear hb
    have hP2 := hP2.weak (Nat.zero_le _)
    go_wp2_with fail
    refine (finishesOf_any SA TA c' d' _ segs atts _ hh HO.out).mono ?_
    rintro e wf ⟨rfl, hb⟩
    clear q0 q1 hz
    have hh := hh.below hb
    have hk := hk.below hb
    have hx := below_up hx hb
    obtain ⟨q0, q1⟩ := hk.two_
    have hz := hk.lt
    have hP := hP.below hb
    have hQ := hQ.below hb
    have kf := kf.below hb
    have kc := kc.below hb
    have hP2 := hP2.below hb
    clear hb
    rw [HF1.out, HF2.out]
    go_wp2_with fail
    have kp : Blk (wf.alloc (.cells #[.int .i64 f1, .int .i64 f2] 41)) wf.heap.size 41 #[.int .i64 f1, .int .i64 f2] := Blk.new _ _ _
    have hh := hh.alloc (.cells #[.int .i64 f1, .int .i64 f2] 41)
    have hk := hk.alloc (.cells #[.int .i64 f1, .int .i64 f2] 41)
    have hx := below_up hx ((Below.refl _ _).alloc (Nat.le_refl _) (.cells #[.int .i64 f1, .int .i64 f2] 41))
    have hP := hP.alloc (.cells #[.int .i64 f1, .int .i64 f2] 41)
    have hQ := hQ.alloc (.cells #[.int .i64 f1, .int .i64 f2] 41)
    have kf := kf.alloc (.cells #[.int .i64 f1, .int .i64 f2] 41)
    have kc := kc.alloc (.cells #[.int .i64 f1, .int .i64 f2] 41)
    have hP2 := hP2.alloc (.cells #[.int .i64 f1, .int .i64 f2] 41)
    clear q0 q1 hz
    obtain ⟨q0, q1⟩ := hk.two_
    have hz := hk.lt
    generalize wf.alloc (.cells #[.int .i64 f1, .int .i64 f2] 41) = wfx at *
    generalize wf.heap.size = bp at *
    generalize decide (0 ≤ bI segs.length atts atts.length) = b1 at *
    generalize decide (0 < atts.length) = b2 at *
    have eb1 : (b1 != b1) = false := by simp
    have eb2 : (b2 != b2) = false := by simp
    have hs9 : (savO segs atts).length ≤ 1000000000 := by
      unfold savO
      split
      · simp
      · exact Nat.le_trans (savL_le _ _ _ _) (by omega)
    have hs8 := lossL_le segs atts segs.length
    obtain ⟨f10, f11⟩ := kf.two_
    have fz1 := kf.lt
    obtain ⟨f20, f21⟩ := kp.two_
    have fz2 := kp.lt
    have ef1 : (f1 == f1) = true := by simp
    have ef2 : (f2 == f2) = true := by simp
    go_wp2_with fail
    refine (equalPr_any A1 A3 c1 c3 _ _ (savO segs atts) (savO segs atts) _ hP hP2 hs9 rfl).mono ?_
    rintro e wg ⟨rfl, q, rfl⟩
    have hb := below_drewN' (Below.refl wfx.heap.size wfx) q
    clear f10 f11 fz1 f20 f21 fz2
    clear q0 q1 hz
    have hh := hh.below hb
    have hk := hk.below hb
    have hx := below_up hx hb
    obtain ⟨q0, q1⟩ := hk.two_
    have hz := hk.lt
    have hP := hP.below hb
    have hQ := hQ.below hb
    have kf := kf.below hb
    have kc := kc.below hb
    have hP2 := hP2.below hb
    have kp := kp.below hb
    clear hb
    generalize wfx.drewN q = w5 at *
    obtain ⟨f10, f11⟩ := kf.two_
    have fz1 := kf.lt
    obtain ⟨f20, f21⟩ := kp.two_
    have fz2 := kp.lt
    go_wp2_with fail
    refine (lossesOf_any SA TA c' d' _ segs atts _ hh HO.out).mono ?_
    rintro e w6 ⟨A4, c4, rfl, ho, hb⟩
    have hQ2 := (Row.of_own ho).weak (Nat.zero_le _)
    clear ho f10 f11 fz1 f20 f21 fz2
    clear q0 q1 hz
    have hh := hh.below hb
    have hk := hk.below hb
    have hx := below_up hx hb
    obtain ⟨q0, q1⟩ := hk.two_
    have hz := hk.lt
    have hP := hP.below hb
    have hQ := hQ.below hb
    have kf := kf.below hb
    have kc := kc.below hb
    have hP2 := hP2.below hb
    have kp := kp.below hb
    clear hb
    obtain ⟨f10, f11⟩ := kf.two_
    have fz1 := kf.lt
    obtain ⟨f20, f21⟩ := kp.two_
    have fz2 := kp.lt
    go_wp2_with fail
    refine (equalLs_any A2 A4 c2 c4 _ _ (lossL segs atts segs.length) (lossL segs atts segs.length) _ hQ hQ2 (by omega) rfl).mono ?_
    rintro e wh ⟨rfl, q2, rfl⟩
    have hb := below_drewN' (Below.refl w6.heap.size w6) q2
    clear f10 f11 fz1 f20 f21 fz2
    clear q0 q1 hz
    have hh := hh.below hb
    have hk := hk.below hb
    have hx := below_up hx hb
    obtain ⟨q0, q1⟩ := hk.two_
    have hz := hk.lt
    have kf := kf.below hb
    have kc := kc.below hb
    have kp := kp.below hb
    clear hb
    generalize w6.drewN q2 = w7 at *
    obtain ⟨f10, f11⟩ := kf.two_
    have fz1 := kf.lt
    obtain ⟨f20, f21⟩ := kp.two_
    have fz2 := kp.lt
    clear hP hP2 hQ hQ2
    go_wp2_with fail
    refine (chanceFault_any SA TA c' d' _ t segs atts _ hh HO.out n4 hm).mono ?_
    rintro e w8 ⟨rfl, hb⟩
    clear q0 q1 hz
    have hh := hh.below hb
    have hk := hk.below hb
    have hx := below_up hx hb
    obtain ⟨q0, q1⟩ := hk.two_
    have hz := hk.lt
    have kc := kc.below hb
    clear hb
    clear f10 f11 fz1 f20 f21 fz2
    by_cases hcf : chF t = 0
    · have HCF := Lib.hid hcf
      rw [hcf]
      clear hcf
      go_wp2_with fail
      refine (chanceOf_un SA TA c' d' _ t segs atts _ hh HO.out n4 hm HCF.out).mono ?_
      rintro e w9 ⟨rfl, hb⟩
      clear q0 q1 hz
      have hh := hh.below hb
      have hk := hk.below hb
      have hx := below_up hx hb
      obtain ⟨q0, q1⟩ := hk.two_
      have hz := hk.lt
      have kc := kc.below hb
      clear hb
      rw [HX1.out, HX2.out, HX3.out]
      obtain ⟨g10, g11⟩ := kc.two_
      have gz1 := kc.lt
      have ex1 : (x1 == x1) = true := by simp
      have ex2 : (x2 == x2) = true := by simp
      have ex3 : (x3 == x3) = true := by simp
      go_wp2_with fail
      refine (summed_any _).mono ?_
      rintro e w10 ⟨rfl, hb⟩
      go_wp2_with fail
      go_ret
      exact ⟨rfl, below_up (hx.alloc hx.size _) hb⟩
    · obtain ⟨rfl, rfl, rfl⟩ := HX.out hcf
      have dcf : (chF t != 0) = true := by simpa using hcf
      have ecf : (chF t == chF t) = true := by simp
      clear hcf
      generalize chF t = cf at *
      obtain ⟨g10, g11⟩ := kc.two_
      have gz1 := kc.lt
      go_wp2_with fail
      refine (summed_any _).mono ?_
      rintro e w10 ⟨rfl, hb⟩
      go_wp2_with fail
      go_ret
      exact ⟨rfl, below_up hx hb⟩
  · have HF := Lib.hid hf
    have dhf : (histF segs atts != 0) = true := by simpa using hf
    have ehf : (histF segs atts == histF segs atts) = true := by simp
    clear hf
    go_wp2_with fail
    refine (Save_bad SA TA c' d' _ segs atts _ hh hz9 HF.out).mono ?_
    rintro e wa ⟨rfl, hb⟩
    clear q0 q1 hz
    have hh := hh.below hb
    have hk := hk.below hb
    have hx := below_up hx hb
    obtain ⟨q0, q1⟩ := hk.two_
    have hz := hk.lt
    clear hb
    go_wp2_with fail
    refine (Losses_bad SA TA c' d' _ segs atts _ hh hz9 HF.out).mono ?_
    rintro e wb ⟨rfl, hb⟩
    clear q0 q1 hz
    have hh := hh.below hb
    have hk := hk.below hb
    have hx := below_up hx hb
    obtain ⟨q0, q1⟩ := hk.two_
    have hz := hk.lt
    clear hb
    go_wp2_with fail
    refine (Finishes_bad SA TA c' d' _ segs atts _ hh hz9 HF.out).mono ?_
    rintro e wc ⟨rfl, hb⟩
    clear q0 q1 hz
    have hh := hh.below hb
    have hk := hk.below hb
    have hx := below_up hx hb
    obtain ⟨q0, q1⟩ := hk.two_
    have hz := hk.lt
    clear hb
    go_wp2_with fail
    have kf : Blk (wc.alloc (.cells #[.int .i64 0, .int .i64 0] 41)) wc.heap.size 41 #[.int .i64 0, .int .i64 0] := Blk.new _ _ _
    have hh := hh.alloc (.cells #[.int .i64 0, .int .i64 0] 41)
    have hk := hk.alloc (.cells #[.int .i64 0, .int .i64 0] 41)
    have hx := below_up hx ((Below.refl _ _).alloc (Nat.le_refl _) (.cells #[.int .i64 0, .int .i64 0] 41))
    clear q0 q1 hz
    obtain ⟨q0, q1⟩ := hk.two_
    have hz := hk.lt
    generalize wc.alloc (.cells #[.int .i64 0, .int .i64 0] 41) = wcx at *
    generalize wc.heap.size = bf at *
    refine (Chance_bad SA TA c' d' _ t segs atts _ hh hz9 HF.out).mono ?_
    rintro e wd ⟨rfl, hb⟩
    clear q0 q1 hz
    have hh := hh.below hb
    have hk := hk.below hb
    have hx := below_up hx hb
    obtain ⟨q0, q1⟩ := hk.two_
    have hz := hk.lt
    have kf := kf.below hb
    clear hb
    clear HF
    generalize histF segs atts = ef at *
    obtain ⟨f10, f11⟩ := kf.two_
    have fz1 := kf.lt
    go_wp2_with fail
    refine (summed_any _).mono ?_
    rintro e w10 ⟨rfl, hb⟩
    go_wp2_with fail
    go_ret
    exact ⟨rfl, below_up (hx.alloc hx.size _) hb⟩
end Go.Proofs.YtapjahbflhingaaGreatDoor
