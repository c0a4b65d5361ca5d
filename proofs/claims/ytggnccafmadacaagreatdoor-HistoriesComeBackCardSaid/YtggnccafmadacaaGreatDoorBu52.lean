/- Texts of this seat, laid together: LawHistoriesComeBack. -/
import Derived.Handy
import Derived.Test.YtggnccafmadacaaGreatDoorBu37
import Derived.Test.YtggnccafmadacaaGreatDoorBu40
import Derived.Test.YtggnccafmadacaaGreatDoorBu26
import Derived.Test.YtggnccafmadacaaGreatDoorBu51
/- For every list of numbers the law HistoriesComeBack returns true and leaves the list as it was: its walk. -/
namespace Go.Proofs.YtggnccafmadacaaGreatDoor
set_option linter.unusedVariables false
set_option linter.unusedSimpArgs false
open Go.RowKit Go.Sort

theorem textV_ok {T : List UInt8} (h : T.length ≤ 200000) : textV T = .tuple #[encStr T, .int .i64 0] := by unfold textV; rw [if_neg (by omega)]
theorem histT_small {segs : List (List UInt8)} {atts : List Att} (h : HistOk segs atts) (h7 : atts.length ≤ 7) : (histT segs atts).length ≤ 200000 := by
  have h1 := headT_len h
  have h2 := attsT_len h atts.length (Nat.le_refl _)
  unfold histT
  rw [List.length_append]; omega
set_option maxHeartbeats 8000000 in
set_option maxRecDepth 100000 in
theorem back_walk (A : Option Addr) (n c : Nat) (w : World) (hn : n ≤ 9223372036854775807)
    (hz : ∀ k, k < n → ∃ b off z, A = some ⟨b, off, none⟩ ∧ b < w.heap.size ∧ w.cell? ⟨b, off + k, none⟩ = some (.int .i64 z) ∧ I64 z) (hE : Env w) :
    LawCall 6 A n c w := by
  have hstr := str_make (c := c) hn hz
  clear hz
  have hx : Below w.heap.size w (w.alloc (.cells #[.slice A n c, .int .i64 0] 25)) := (Below.refl _ _).alloc (Nat.le_refl _) _
  have hz0 : (w.alloc (.cells #[.slice A n c, .int .i64 0] 25)).heap.size = w.heap.size + 1 := by simp
  have HEB := Lib.hid (EnvB.of hE)
  clear hE
  go_enter Tryz.func6, Tryz.ntmps6
  go_wp2_with fail
  generalize w.alloc (.cells #[.slice A n c, .int .i64 0] 25) = w0 at *
  have HZ0 := Lib.hid hz0
  have hgl : w.heap.size < w0.heap.size := by omega
  clear hz0
  refine (rightHistory_any w.heap.size 0 _ hstr (by omega)).mono ?_
  rintro e w1 ⟨SA, TA, c', d', segs, atts, rfl, hh, hc, n4, n7, hl4, hok, hs1, hg1⟩
  replace hx := hx.grown hg1 (by omega) (fun k hk => by injection hk with hk; omega)
  have hTl := histT_small hok n7
  have HO := Lib.hid hok
  have HCM := Lib.hid (hist_comes hok hTl)
  have hl60 : ∀ i (h : i < atts.length), atts[i].2.length ≤ 1000000000 := fun i h => by have := hl4 i h; omega
  have HL60 := Lib.hid hl60
  clear hstr hg1 hok hl4 hl60
  go_wp2_with fail
  have k1 : Blk (w1.alloc (.cells #[.slice SA segs.length c', .slice TA atts.length d'] 56)) w1.heap.size 56 #[.slice SA segs.length c', .slice TA atts.length d'] := Blk.new _ _ _
  replace hh := hh.alloc (.cells #[.slice SA segs.length c', .slice TA atts.length d'] 56)
  replace hs1 := hs1.alloc (.cells #[.slice SA segs.length c', .slice TA atts.length d'] 56)
  replace hx := below_up hx ((Below.refl _ _).alloc (Nat.le_refl _) (.cells #[.slice SA segs.length c', .slice TA atts.length d'] 56))
  generalize w1.alloc (.cells #[.slice SA segs.length c', .slice TA atts.length d'] 56) = w2 at *
  generalize w1.heap.size = x1 at *
  obtain ⟨q0, q1⟩ := k1.two_
  have qz := k1.lt
  have TX := Text_ok SA TA c' d' _ segs atts w2 hh hc HO.out (HEB.out _ hx)
  go_wp2_with fail
  refine TX.mono ?_
  rintro e w3 ⟨rfl, hb⟩
  rw [textV_ok hTl]
  replace hh := hh.below hb
  replace hs1 := hs1.keep hb
  replace k1 := k1.below hb
  replace hx := below_up hx hb
  clear hb q0 q1 qz TX
  generalize histT segs atts = T at *
  go_wp2_with fail
  refine (Read_any T _ (by omega) (HEB.out _ hx)).mono ?_
  rintro e w4 ⟨SB, TB, sc, td, rfl, hh2, hsc, hb⟩
  rw [HCM.out] at hh2 hsc
  rw [HCM.out]
  dsimp only at *
  replace hh := hh.below hb
  replace hs1 := hs1.keep hb
  replace k1 := k1.below hb
  replace hx := below_up hx hb
  clear hb
  go_upto_region 5 with (fail)
  have k2 : Blk (w4.alloc (.cells #[.slice SB segs.length sc, .slice TB atts.length td] 56)) w4.heap.size 56 #[.slice SB segs.length sc, .slice TB atts.length td] := Blk.new _ _ _
  replace hh := hh.alloc (.cells #[.slice SB segs.length sc, .slice TB atts.length td] 56)
  replace hh2 := hh2.alloc (.cells #[.slice SB segs.length sc, .slice TB atts.length td] 56)
  replace hs1 := hs1.alloc (.cells #[.slice SB segs.length sc, .slice TB atts.length td] 56)
  replace k1 := k1.alloc (.cells #[.slice SB segs.length sc, .slice TB atts.length td] 56)
  replace hx := below_up hx ((Below.refl _ _).alloc (Nat.le_refl _) (.cells #[.slice SB segs.length sc, .slice TB atts.length td] 56))
  generalize w4.alloc (.cells #[.slice SB segs.length sc, .slice TB atts.length td] 56) = w5 at *
  generalize w4.heap.size = x2 at *
  obtain ⟨q0, q1⟩ := k1.two_
  have qz := k1.lt
  obtain ⟨r0, r1⟩ := k2.two_
  have rz := k2.lt
  go_wp2_with fail
  refine (sameHistory_any SB TB SA TA sc td c' d' _ _ segs segs atts atts w5 hh2 hh (by omega) (by omega) (by omega) (by omega) HL60.out HL60.out).mono ?_
  rintro e w6 ⟨rfl, hb⟩
  rw [decide_eq_true (show segs = segs ∧ atts = atts from ⟨rfl, rfl⟩)]
  replace hs1 := hs1.keep hb
  replace hx := below_up hx hb
  clear hb q0 q1 qz r0 r1 rz k1 k2 hh hh2 HCM HO HL60 hsc
  go_wp2_with fail
  refine (historyString_any w.heap.size _ w.heap.size _ hs1 (by omega) (HEB.out.below hx) (Nat.le_refl _)).mono ?_
  rintro e w7 ⟨r, rfl, hr, hs2, hg2⟩
  replace hx := hx.grown hg2 hx.size (fun k hk => by injection hk with hk; omega)
  clear hs1 hg2 hs2
  go_wp2_with fail
  refine (Read_any r _ hr (HEB.out _ hx)).mono ?_
  rintro e w8 ⟨SB, TB, sc, td, rfl, hh, hsc, hb⟩
  replace hx := below_up hx hb
  clear hb
  by_cases he : (readV r).2.2.2 = 0
  · obtain ⟨hok, htx, hrl⟩ := text_comes he
    have HTX := Lib.hid htx
    have HO := Lib.hid hok
    rw [he]
    clear he htx hok
    generalize (readV r).1 = S at *
    generalize (readV r).2.1 = Q at *
    generalize (readV r).2.2.1 = ln at *
    go_upto_region 9 with (fail)
    have k2 : Blk (w8.alloc (.cells #[.slice SB S.length sc, .slice TB Q.length td] 56)) w8.heap.size 56 #[.slice SB S.length sc, .slice TB Q.length td] := Blk.new _ _ _
    replace hh := hh.alloc (.cells #[.slice SB S.length sc, .slice TB Q.length td] 56)
    replace hx := below_up hx ((Below.refl _ _).alloc (Nat.le_refl _) (.cells #[.slice SB S.length sc, .slice TB Q.length td] 56))
    generalize w8.alloc (.cells #[.slice SB S.length sc, .slice TB Q.length td] 56) = w9 at *
    generalize w8.heap.size = x3 at *
    obtain ⟨r0, r1⟩ := k2.two_
    have rz := k2.lt
    have TX := Text_ok SB TB sc td _ S Q w9 hh hsc HO.out (HEB.out _ hx)
    go_wp2_with fail
    refine TX.mono ?_
    rintro e w10 ⟨rfl, hb⟩
    rw [HTX.out, textV_ok hrl]
    replace hx := below_up hx hb
    clear hb TX r0 r1 rz
    have eq : (r == r) = true := by simp
    go_wp2_with fail
    refine (ready_any _).mono ?_
    rintro e w11 ⟨rfl, hb⟩
    go_wp2_with fail
    go_ret
    exact ⟨rfl, below_up hx hb⟩
  · have dn : ((readV r).2.2.2 == 0) = false := by simpa using he
    clear he
    generalize (readV r).1 = S at *
    generalize (readV r).2.1 = Q at *
    generalize (readV r).2.2.1 = ln at *
    generalize (readV r).2.2.2 = en at *
    go_wp2_with fail
    refine (ready_any _).mono ?_
    rintro e w11 ⟨rfl, hb⟩
    go_wp2_with fail
    go_ret
    exact ⟨rfl, below_up (hx.alloc hx.size _) hb⟩
end Go.Proofs.YtggnccafmadacaaGreatDoor
