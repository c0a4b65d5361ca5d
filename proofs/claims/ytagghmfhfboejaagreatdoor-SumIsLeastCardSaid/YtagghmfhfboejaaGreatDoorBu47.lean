/- Texts of this seat, laid together: LawSumIsLeast. -/
import Derived.Deep.DeepCutAuto
import Derived.Test.YtagghmfhfboejaaGreatDoorBu30
import Derived.Test.YtagghmfhfboejaaGreatDoorBu35
import Derived.Test.YtagghmfhfboejaaGreatDoorBu23
import Derived.Test.YtagghmfhfboejaaGreatDoorBu46
/- For every list of numbers the law SumIsLeast returns true and leaves the list as it was: its walk. -/
namespace Go.Proofs.YtagghmfhfboejaaGreatDoor
set_option linter.unusedVariables false
set_option linter.unusedSimpArgs false
open Go.RowKit Go.Sort

theorem gold_bd {segs : List (List UInt8)} {atts : List Att} (hok : HistOk segs atts) (k : Nat) : 0 ≤ goldA atts k ∧ goldA atts k ≤ 864000000 := by
  by_cases h : goldA atts k = 0
  · rw [h]; omega
  · have := rowA_bd hok.spl k _ (gold_mem h)
    omega
def gsum (atts : List Att) (n k : Nat) : Int := ((goldL atts n).take k).sum
theorem gsum_zero (atts : List Att) (n : Nat) : gsum atts n 0 = 0 := by simp [gsum]
theorem gsum_all (atts : List Att) (n : Nat) : gsum atts n n = (goldL atts n).sum := by
  unfold gsum
  rw [List.take_of_length_le (by rw [goldL_len]; exact Nat.le_refl _)]
theorem gsum_next {atts : List Att} {n k : Nat} (hk : k < n) : gsum atts n (k + 1) = gsum atts n k + goldA atts k := by
  unfold gsum
  have h : k < (goldL atts n).length := by rw [goldL_len]; exact hk
  rw [List.take_succ_eq_append_getElem h, goldL_at]; simp
theorem gsum_bd {segs : List (List UInt8)} {atts : List Att} (hok : HistOk segs atts) : ∀ k, k ≤ segs.length → 0 ≤ gsum atts segs.length k ∧ gsum atts segs.length k ≤ 864000000 * k := by
  intro k
  induction k with
  | zero => intro _; rw [gsum_zero]; simp
  | succ k ih =>
    intro hk
    have := ih (by omega)
    have g := gold_bd hok k
    rw [gsum_next (by omega)]
    omega
theorem bT_last {n : Nat} {atts : List Att} {j : Nat} (h : bI n atts atts.length = j) (hj : j < atts.length) : bT n atts = lastT (0, atts[j].2) := by
  have hneg : ¬ ((j : Int) < 0) := by omega
  have e : atts.getD j (0, []) = atts[j] := by rw [List.getD_eq_getElem?_getD, List.getElem?_eq_getElem hj]; rfl
  unfold bT
  rw [h, if_neg hneg, Int.toNat_natCast, e]
  rfl
set_option maxHeartbeats 8000000 in
set_option maxRecDepth 100000 in
theorem sum_walk (A : Option Addr) (n c : Nat) (w : World) (hn : n ≤ 9223372036854775807)
    (hz : ∀ k, k < n → ∃ b off z, A = some ⟨b, off, none⟩ ∧ b < w.heap.size ∧ w.cell? ⟨b, off + k, none⟩ = some (.int .i64 z) ∧ I64 z) :
    LawCall 5 A n c w := by
  have hstr := str_make (c := c) hn hz
  clear hz
  have hb0 : Below w.heap.size w (w.alloc (.cells #[.slice A n c, .int .i64 0] 25)) := (Below.refl _ _).alloc (Nat.le_refl _) _
  have hz0 : (w.alloc (.cells #[.slice A n c, .int .i64 0] 25)).heap.size = w.heap.size + 1 := by simp
  go_enter Tryz.func5, Tryz.ntmps5
  go_wp2_with fail
  generalize w.alloc (.cells #[.slice A n c, .int .i64 0] 25) = w0 at *
  have HZ0 := Lib.hid hz0
  clear hz0
  refine (rightHistory_any w.heap.size 0 _ hstr (by omega)).mono ?_
  rintro e w2 ⟨SA, TA, c', d', segs, atts, rfl, hh, hc, n4, hm, hl, hok, hs1, hg1⟩
  have HO := Lib.hid hok
  have n1 := hok.n1
  have hx : Below w.heap.size w w2 := hb0.grown hg1 (by have := HZ0.out; omega) (fun k hk => by injection hk with hk; omega)
  clear hs1 hg1 hb0 hstr hok hl
  go_wp2_with fail
  have hk : Blk (w2.alloc (.cells #[.slice SA segs.length c', .slice TA atts.length d'] 29)) w2.heap.size 29 #[.slice SA segs.length c', .slice TA atts.length d'] := Blk.new _ _ _
  have hh := hh.alloc (.cells #[.slice SA segs.length c', .slice TA atts.length d'] 29)
  have hx := below_up hx ((Below.refl _ _).alloc (Nat.le_refl _) (.cells #[.slice SA segs.length c', .slice TA atts.length d'] 29))
  generalize w2.alloc (.cells #[.slice SA segs.length c', .slice TA atts.length d'] 29) = W at *
  generalize w2.heap.size = bx at *
  obtain ⟨q0, q1⟩ := hk.two_
  have hz := hk.lt
  refine (sumOfBest_ok SA TA c' d' _ segs atts _ hh hc HO.out).mono ?_
  rintro e w1 ⟨rfl, hb⟩
  clear q0 q1 hz
  have hh := hh.below hb
  have hk := hk.below hb
  have hx := below_up hx hb
  obtain ⟨q0, q1⟩ := hk.two_
  have hz := hk.lt
  clear hb
  go_wp2_with fail
  refine (Best_ok SA TA c' d' _ segs atts _ hh hc HO.out).mono ?_
  rintro e w1 ⟨rfl, hb⟩
  clear q0 q1 hz
  have hh := hh.below hb
  have hk := hk.below hb
  have hx := below_up hx hb
  obtain ⟨q0, q1⟩ := hk.two_
  have hz := hk.lt
  clear hb
  go_wp2_with fail
  refine (Golds_ok SA TA c' d' _ segs atts _ hh hc HO.out).mono ?_
  rintro e w1 ⟨A2, c2, rfl, ho2, hb⟩
  clear q0 q1 hz
  have hh := hh.below hb
  have hk := hk.below hb
  have hx := below_up hx hb
  obtain ⟨q0, q1⟩ := hk.two_
  have hz := hk.lt
  clear hb
  have hG := Row.of_own ho2
  clear ho2
  have HGL : Hid ((goldL atts segs.length).length = segs.length) := Lib.hid (goldL_len _ _)
  have lG : (goldL atts segs.length).length ≤ 1000 := by rw [goldL_len]; omega
  have HSE : Hid (lvV (stepsA atts) segs.length 0 = sumV segs atts) := Lib.hid rfl
  have HDN := Lib.hid (fun i hi hl => sum_le_done HO.out (i := i) hi hl)
  rw [HSE.out] at HDN
  have hbI := bI_inv segs.length atts atts.length (Nat.le_refl _)
  generalize hs9 : sumV segs atts = s at *
  have HSV : Hid (lvV (stepsA atts) segs.length 0 = s) := HSE
  clear hs9
  rcases Int.lt_or_le s 0 with hs | hs
  · have m1 : max s 0 = 0 := by omega
    have p1 : decide (0 ≤ s) = false := by simp; omega
    rw [m1, p1]
    rcases hbI with hb0 | ⟨kb, hkb, hb0, _, hkn⟩
    · obtain ⟨b1, b2, b3⟩ := bT_none hb0
      rw [b1, b2, b3]
      clear b1 b2 b3 hb0 m1 p1
      go_wp2_with fail
      go_loop [14, 69] (fun v i => ∃ k : Nat, k ≤ (goldL atts segs.length).length ∧ i = .int .i64 k ∧ v = .int .i64 (gsum atts segs.length k)) (fun _ i => (goldL atts segs.length).length - (intOf i).toNat)
      case atStart => exact ⟨0, Nat.zero_le _, rfl, by rw [gsum_zero]⟩
      case round =>
        obtain ⟨k, hk9, rfl, rfl⟩ := hrel
        by_cases hlt : k < (goldL atts segs.length).length
        · have hks : k < segs.length := by have := HGL.out; omega
          obtain ⟨b, off, rfl, _, hbs, c0⟩ := hG.int_at (k := k) hlt
          have HT := Lib.hid (gsum_next (atts := atts) (n := segs.length) hks)
          have g1 := gsum_bd HO.out k (by omega)
          have g2 := gold_bd HO.out k
          rw [goldL_at] at c0
          generalize gsum atts segs.length k = sm at *
          generalize goldA atts k = x at *
          have wx : IntKind.i64.wrap (sm + x) = sm + x := IntWalk.i64_in _ (by omega)
          skip
          go_wp2_with fail
          skip
          go_round
          case rel => exact ⟨k + 1, by omega, by go_num, by rw [HT.out]⟩
          case measure => simp [intOf]; omega
        · have hkn : k = segs.length := by have := HGL.out; omega
          have hgs9 : gsum atts segs.length k = (goldL atts segs.length).sum := by rw [hkn, gsum_all]
          rw [hgs9]
          clear hkn hgs9
          generalize hS9 : (goldL atts segs.length).sum = S9 at *
          go_wp2_with fail
          refine (containsI_any _ _ _ (goldL atts segs.length) 0 _ hG (by omega)).mono ?_
          rintro e w2 ⟨rfl, rfl⟩
          by_cases h0 : (0 : Int) ∈ goldL atts segs.length
          · rw [decide_eq_true h0]
            clear h0
            have W9 : ∃ W, W = w1 := ⟨_, rfl⟩
            obtain ⟨W, hW9⟩ := W9
            subst hW9
            go_wp2_with fail
            go_loopw [92] (fun i wr => ∃ j : Nat, j ≤ atts.length ∧ i = .int .i64 j ∧ Below W.heap.size W wr) (fun i _ => atts.length - (intOf i).toNat)
            case atStart => exact ⟨0, Nat.zero_le _, rfl, Below.refl _ _⟩
            case round =>
              obtain ⟨j, hj, rfl, hbw⟩ := hrel
              clear q0 q1 hz
              have hh := hh.below hbw
              have hk := hk.below hbw
              obtain ⟨q0, q1⟩ := hk.two_
              have hz := hk.lt
              have hzr := hbw.size
              by_cases hlt : j < atts.length
              · obtain ⟨b, off, B, cB, rfl, hbs, c0, c1', hrB⟩ := hh.att hlt
                have HSP := Lib.hid (HO.out.spl j hlt)
                have HR := Lib.hid (fun h9 hv => sum_le_reach HO.out hlt h9 hv)
                have hrA := hrB.alloc (.cells #[.int .i64 atts[j].1, .slice B atts[j].2.length cB] 45)
                have hkA : Blk (wr.alloc (.cells #[.int .i64 atts[j].1, .slice B atts[j].2.length cB] 45)) wr.heap.size 45 #[.int .i64 atts[j].1, .slice B atts[j].2.length cB] := Blk.new _ _ _
                have hba : Below W.heap.size W (wr.alloc (.cells #[.int .i64 atts[j].1, .slice B atts[j].2.length cB] 45)) := (by repeat (first | exact hbw | refine Below.alloc ?_ (by first | omega | (simp; omega)) _ | refine below_drewN' ?_ _ | refine Below.drew ?_))
                have hhA := hh.alloc (.cells #[.int .i64 atts[j].1, .slice B atts[j].2.length cB] 45)
                generalize atts[j].1 = no at *
                generalize atts[j].2 = l at *
                clear hrB
                rw [HSE.out] at HR
                go_wp2_with fail
                refine (Possible_ok SA _ B c' d' cB _ _ l segs atts _ hhA hc HO.out hrA HSP.out).mono ?_
                rintro e w5 ⟨rfl, hb5⟩
                have hx2 := below_up hba hb5
                clear hb5 hba hhA hrA hkA
                have pb : possB segs atts l = false := by
                  unfold possB
                  refine decide_eq_false (fun hv => ?_)
                  rcases Nat.eq_zero_or_pos l.length with h9 | h9
                  · rw [h9] at hv; exact absurd hv (by have := HSV.out; omega)
                  · have := (HR.out h9 hv).1; omega
                rw [pb]
                clear pb HR
                go_wp2_with fail
                go_roundw
                case rel => exact ⟨j + 1, by omega, by go_num, hx2⟩
                case measure => simp [intOf]; omega
              · go_wp2_with fail
                refine (ready_any _).mono ?_
                rintro e w9 ⟨rfl, hb9⟩
                go_wp2_with fail
                go_ret
                exact ⟨rfl, below_up (below_up hx hbw) hb9⟩
          · exfalso
            have hall : ∀ k, k < segs.length → goldA atts k ≠ 0 := fun k hk e => h0 (by
              rw [← e, ← goldL_at atts segs.length k (by rw [goldL_len]; exact hk)]; exact List.getElem_mem _)
            have hsg := sum_le_golds HO.out hall segs.length 0 (by omega)
            have := HSV.out
            omega
    · exfalso
      have := (HDN.out kb hkb hkn).1
      omega
  · have m1 : max s 0 = s := by omega
    have p1 : decide (0 ≤ s) = true := by simp; omega
    rw [m1, p1]
    rcases hbI with hb0 | ⟨kb, hkb, hb0, _, hkn⟩
    · obtain ⟨b1, b2, b3⟩ := bT_none hb0
      rw [b1, b2, b3]
      clear b1 b2 b3 hb0 m1 p1
      go_wp2_with fail
      go_loop [14, 69] (fun v i => ∃ k : Nat, k ≤ (goldL atts segs.length).length ∧ i = .int .i64 k ∧ v = .int .i64 (gsum atts segs.length k)) (fun _ i => (goldL atts segs.length).length - (intOf i).toNat)
      case atStart => exact ⟨0, Nat.zero_le _, rfl, by rw [gsum_zero]⟩
      case round =>
        obtain ⟨k, hk9, rfl, rfl⟩ := hrel
        by_cases hlt : k < (goldL atts segs.length).length
        · have hks : k < segs.length := by have := HGL.out; omega
          obtain ⟨b, off, rfl, _, hbs, c0⟩ := hG.int_at (k := k) hlt
          have HT := Lib.hid (gsum_next (atts := atts) (n := segs.length) hks)
          have g1 := gsum_bd HO.out k (by omega)
          have g2 := gold_bd HO.out k
          rw [goldL_at] at c0
          generalize gsum atts segs.length k = sm at *
          generalize goldA atts k = x at *
          have wx : IntKind.i64.wrap (sm + x) = sm + x := IntWalk.i64_in _ (by omega)
          skip
          go_wp2_with fail
          skip
          go_round
          case rel => exact ⟨k + 1, by omega, by go_num, by rw [HT.out]⟩
          case measure => simp [intOf]; omega
        · have hkn : k = segs.length := by have := HGL.out; omega
          have hgs9 : gsum atts segs.length k = (goldL atts segs.length).sum := by rw [hkn, gsum_all]
          rw [hgs9]
          clear hkn hgs9
          generalize hS9 : (goldL atts segs.length).sum = S9 at *
          go_wp2_with fail
          refine (containsI_any _ _ _ (goldL atts segs.length) 0 _ hG (by omega)).mono ?_
          rintro e w2 ⟨rfl, rfl⟩
          by_cases h0 : (0 : Int) ∈ goldL atts segs.length
          · rw [decide_eq_true h0]
            clear h0
            have W9 : ∃ W, W = w1 := ⟨_, rfl⟩
            obtain ⟨W, hW9⟩ := W9
            subst hW9
            go_wp2_with fail
            go_loopw [92] (fun i wr => ∃ j : Nat, j ≤ atts.length ∧ i = .int .i64 j ∧ Below W.heap.size W wr) (fun i _ => atts.length - (intOf i).toNat)
            case atStart => exact ⟨0, Nat.zero_le _, rfl, Below.refl _ _⟩
            case round =>
              obtain ⟨j, hj, rfl, hbw⟩ := hrel
              clear q0 q1 hz
              have hh := hh.below hbw
              have hk := hk.below hbw
              obtain ⟨q0, q1⟩ := hk.two_
              have hz := hk.lt
              have hzr := hbw.size
              by_cases hlt : j < atts.length
              · obtain ⟨b, off, B, cB, rfl, hbs, c0, c1', hrB⟩ := hh.att hlt
                have HSP := Lib.hid (HO.out.spl j hlt)
                have HR := Lib.hid (fun h9 hv => sum_le_reach HO.out hlt h9 hv)
                have hrA := hrB.alloc (.cells #[.int .i64 atts[j].1, .slice B atts[j].2.length cB] 45)
                have hkA : Blk (wr.alloc (.cells #[.int .i64 atts[j].1, .slice B atts[j].2.length cB] 45)) wr.heap.size 45 #[.int .i64 atts[j].1, .slice B atts[j].2.length cB] := Blk.new _ _ _
                have hba : Below W.heap.size W (wr.alloc (.cells #[.int .i64 atts[j].1, .slice B atts[j].2.length cB] 45)) := (by repeat (first | exact hbw | refine Below.alloc ?_ (by first | omega | (simp; omega)) _ | refine below_drewN' ?_ _ | refine Below.drew ?_))
                have hhA := hh.alloc (.cells #[.int .i64 atts[j].1, .slice B atts[j].2.length cB] 45)
                generalize atts[j].1 = no at *
                generalize atts[j].2 = l at *
                clear hrB
                rw [HSE.out] at HR
                go_wp2_with fail
                refine (Possible_ok SA _ B c' d' cB _ _ l segs atts _ hhA hc HO.out hrA HSP.out).mono ?_
                rintro e w5 ⟨rfl, hb5⟩
                have hx2 := below_up hba hb5
                clear hb5 hba hhA hrA hkA
                by_cases hv : 0 ≤ lvV (stepsA atts) segs.length l.length
                · have pb : possB segs atts l = true := decide_eq_true hv
                  have pn : decide (possN segs atts l < s) = false := by
                    refine decide_eq_false ?_
                    rw [possN_eq, if_neg (by omega)]
                    rcases Nat.eq_zero_or_pos l.length with h9 | h9
                    · rw [if_pos h9, h9]; have := HSV.out; omega
                    · rw [if_neg (by omega)]; have := (HR.out h9 hv).2; omega
                  rw [pb]
                  clear pb HR hv
                  generalize possN segs atts l = pp at *
                  go_wp2_with fail
                  go_roundw
                  case rel => exact ⟨j + 1, by omega, by go_num, hx2⟩
                  case measure => simp [intOf]; omega
                · have pb : possB segs atts l = false := decide_eq_false hv
                  rw [pb]
                  clear pb HR hv
                  generalize possN segs atts l = pp at *
                  go_wp2_with fail
                  go_roundw
                  case rel => exact ⟨j + 1, by omega, by go_num, hx2⟩
                  case measure => simp [intOf]; omega
              · go_wp2_with fail
                refine (ready_any _).mono ?_
                rintro e w9 ⟨rfl, hb9⟩
                go_wp2_with fail
                go_ret
                exact ⟨rfl, below_up (below_up hx hbw) hb9⟩
          · have dS : decide (S9 < s) = false := by
              have hall : ∀ k, k < segs.length → goldA atts k ≠ 0 := fun k hk e => h0 (by
                rw [← e, ← goldL_at atts segs.length k (by rw [goldL_len]; exact hk)]; exact List.getElem_mem _)
              have hsg := sum_le_golds HO.out hall segs.length 0 (by omega)
              have := HSV.out
              have e0 : (goldL atts 0).sum = 0 := by simp [goldL]
              refine decide_eq_false ?_
              omega
            rw [decide_eq_false h0]
            clear h0
            have W9 : ∃ W, W = w1 := ⟨_, rfl⟩
            obtain ⟨W, hW9⟩ := W9
            subst hW9
            go_wp2_with fail
            go_loopw [92] (fun i wr => ∃ j : Nat, j ≤ atts.length ∧ i = .int .i64 j ∧ Below W.heap.size W wr) (fun i _ => atts.length - (intOf i).toNat)
            case atStart => exact ⟨0, Nat.zero_le _, rfl, Below.refl _ _⟩
            case round =>
              obtain ⟨j, hj, rfl, hbw⟩ := hrel
              clear q0 q1 hz
              have hh := hh.below hbw
              have hk := hk.below hbw
              obtain ⟨q0, q1⟩ := hk.two_
              have hz := hk.lt
              have hzr := hbw.size
              by_cases hlt : j < atts.length
              · obtain ⟨b, off, B, cB, rfl, hbs, c0, c1', hrB⟩ := hh.att hlt
                have HSP := Lib.hid (HO.out.spl j hlt)
                have HR := Lib.hid (fun h9 hv => sum_le_reach HO.out hlt h9 hv)
                have hrA := hrB.alloc (.cells #[.int .i64 atts[j].1, .slice B atts[j].2.length cB] 45)
                have hkA : Blk (wr.alloc (.cells #[.int .i64 atts[j].1, .slice B atts[j].2.length cB] 45)) wr.heap.size 45 #[.int .i64 atts[j].1, .slice B atts[j].2.length cB] := Blk.new _ _ _
                have hba : Below W.heap.size W (wr.alloc (.cells #[.int .i64 atts[j].1, .slice B atts[j].2.length cB] 45)) := (by repeat (first | exact hbw | refine Below.alloc ?_ (by first | omega | (simp; omega)) _ | refine below_drewN' ?_ _ | refine Below.drew ?_))
                have hhA := hh.alloc (.cells #[.int .i64 atts[j].1, .slice B atts[j].2.length cB] 45)
                generalize atts[j].1 = no at *
                generalize atts[j].2 = l at *
                clear hrB
                rw [HSE.out] at HR
                go_wp2_with fail
                refine (Possible_ok SA _ B c' d' cB _ _ l segs atts _ hhA hc HO.out hrA HSP.out).mono ?_
                rintro e w5 ⟨rfl, hb5⟩
                have hx2 := below_up hba hb5
                clear hb5 hba hhA hrA hkA
                by_cases hv : 0 ≤ lvV (stepsA atts) segs.length l.length
                · have pb : possB segs atts l = true := decide_eq_true hv
                  have pn : decide (possN segs atts l < s) = false := by
                    refine decide_eq_false ?_
                    rw [possN_eq, if_neg (by omega)]
                    rcases Nat.eq_zero_or_pos l.length with h9 | h9
                    · rw [if_pos h9, h9]; have := HSV.out; omega
                    · rw [if_neg (by omega)]; have := (HR.out h9 hv).2; omega
                  rw [pb]
                  clear pb HR hv
                  generalize possN segs atts l = pp at *
                  go_wp2_with fail
                  go_roundw
                  case rel => exact ⟨j + 1, by omega, by go_num, hx2⟩
                  case measure => simp [intOf]; omega
                · have pb : possB segs atts l = false := decide_eq_false hv
                  rw [pb]
                  clear pb HR hv
                  generalize possN segs atts l = pp at *
                  go_wp2_with fail
                  go_roundw
                  case rel => exact ⟨j + 1, by omega, by go_num, hx2⟩
                  case measure => simp [intOf]; omega
              · go_wp2_with fail
                refine (ready_any _).mono ?_
                rintro e w9 ⟨rfl, hb9⟩
                go_wp2_with fail
                go_ret
                exact ⟨rfl, below_up (below_up hx hbw) hb9⟩
    · have b1 := bT_last hb0 hkb
      have b3 : decide (0 ≤ bI segs.length atts atts.length) = true := by rw [hb0]; simp
      have dB : decide (bT segs.length atts < s) = false := by
        rw [b1]
        have := (HDN.out kb hkb hkn).2
        refine decide_eq_false ?_
        omega
      rw [b3]
      clear b1 b3 hb0 hkn m1 p1
      generalize bT segs.length atts = bt at *
      generalize bN segs.length atts = bn at *
      go_wp2_with fail
      go_loop [14, 69] (fun v i => ∃ k : Nat, k ≤ (goldL atts segs.length).length ∧ i = .int .i64 k ∧ v = .int .i64 (gsum atts segs.length k)) (fun _ i => (goldL atts segs.length).length - (intOf i).toNat)
      case atStart => exact ⟨0, Nat.zero_le _, rfl, by rw [gsum_zero]⟩
      case round =>
        obtain ⟨k, hk9, rfl, rfl⟩ := hrel
        by_cases hlt : k < (goldL atts segs.length).length
        · have hks : k < segs.length := by have := HGL.out; omega
          obtain ⟨b, off, rfl, _, hbs, c0⟩ := hG.int_at (k := k) hlt
          have HT := Lib.hid (gsum_next (atts := atts) (n := segs.length) hks)
          have g1 := gsum_bd HO.out k (by omega)
          have g2 := gold_bd HO.out k
          rw [goldL_at] at c0
          generalize gsum atts segs.length k = sm at *
          generalize goldA atts k = x at *
          have wx : IntKind.i64.wrap (sm + x) = sm + x := IntWalk.i64_in _ (by omega)
          skip
          go_wp2_with fail
          skip
          go_round
          case rel => exact ⟨k + 1, by omega, by go_num, by rw [HT.out]⟩
          case measure => simp [intOf]; omega
        · have hkn : k = segs.length := by have := HGL.out; omega
          have hgs9 : gsum atts segs.length k = (goldL atts segs.length).sum := by rw [hkn, gsum_all]
          rw [hgs9]
          clear hkn hgs9
          generalize hS9 : (goldL atts segs.length).sum = S9 at *
          go_wp2_with fail
          refine (containsI_any _ _ _ (goldL atts segs.length) 0 _ hG (by omega)).mono ?_
          rintro e w2 ⟨rfl, rfl⟩
          by_cases h0 : (0 : Int) ∈ goldL atts segs.length
          · rw [decide_eq_true h0]
            clear h0
            have W9 : ∃ W, W = w1 := ⟨_, rfl⟩
            obtain ⟨W, hW9⟩ := W9
            subst hW9
            go_wp2_with fail
            go_loopw [92] (fun i wr => ∃ j : Nat, j ≤ atts.length ∧ i = .int .i64 j ∧ Below W.heap.size W wr) (fun i _ => atts.length - (intOf i).toNat)
            case atStart => exact ⟨0, Nat.zero_le _, rfl, Below.refl _ _⟩
            case round =>
              obtain ⟨j, hj, rfl, hbw⟩ := hrel
              clear q0 q1 hz
              have hh := hh.below hbw
              have hk := hk.below hbw
              obtain ⟨q0, q1⟩ := hk.two_
              have hz := hk.lt
              have hzr := hbw.size
              by_cases hlt : j < atts.length
              · obtain ⟨b, off, B, cB, rfl, hbs, c0, c1', hrB⟩ := hh.att hlt
                have HSP := Lib.hid (HO.out.spl j hlt)
                have HR := Lib.hid (fun h9 hv => sum_le_reach HO.out hlt h9 hv)
                have hrA := hrB.alloc (.cells #[.int .i64 atts[j].1, .slice B atts[j].2.length cB] 45)
                have hkA : Blk (wr.alloc (.cells #[.int .i64 atts[j].1, .slice B atts[j].2.length cB] 45)) wr.heap.size 45 #[.int .i64 atts[j].1, .slice B atts[j].2.length cB] := Blk.new _ _ _
                have hba : Below W.heap.size W (wr.alloc (.cells #[.int .i64 atts[j].1, .slice B atts[j].2.length cB] 45)) := (by repeat (first | exact hbw | refine Below.alloc ?_ (by first | omega | (simp; omega)) _ | refine below_drewN' ?_ _ | refine Below.drew ?_))
                have hhA := hh.alloc (.cells #[.int .i64 atts[j].1, .slice B atts[j].2.length cB] 45)
                generalize atts[j].1 = no at *
                generalize atts[j].2 = l at *
                clear hrB
                rw [HSE.out] at HR
                go_wp2_with fail
                refine (Possible_ok SA _ B c' d' cB _ _ l segs atts _ hhA hc HO.out hrA HSP.out).mono ?_
                rintro e w5 ⟨rfl, hb5⟩
                have hx2 := below_up hba hb5
                clear hb5 hba hhA hrA hkA
                by_cases hv : 0 ≤ lvV (stepsA atts) segs.length l.length
                · have pb : possB segs atts l = true := decide_eq_true hv
                  have pn : decide (possN segs atts l < s) = false := by
                    refine decide_eq_false ?_
                    rw [possN_eq, if_neg (by omega)]
                    rcases Nat.eq_zero_or_pos l.length with h9 | h9
                    · rw [if_pos h9, h9]; have := HSV.out; omega
                    · rw [if_neg (by omega)]; have := (HR.out h9 hv).2; omega
                  rw [pb]
                  clear pb HR hv
                  generalize possN segs atts l = pp at *
                  go_wp2_with fail
                  go_roundw
                  case rel => exact ⟨j + 1, by omega, by go_num, hx2⟩
                  case measure => simp [intOf]; omega
                · have pb : possB segs atts l = false := decide_eq_false hv
                  rw [pb]
                  clear pb HR hv
                  generalize possN segs atts l = pp at *
                  go_wp2_with fail
                  go_roundw
                  case rel => exact ⟨j + 1, by omega, by go_num, hx2⟩
                  case measure => simp [intOf]; omega
              · go_wp2_with fail
                refine (ready_any _).mono ?_
                rintro e w9 ⟨rfl, hb9⟩
                go_wp2_with fail
                go_ret
                exact ⟨rfl, below_up (below_up hx hbw) hb9⟩
          · have dS : decide (S9 < s) = false := by
              have hall : ∀ k, k < segs.length → goldA atts k ≠ 0 := fun k hk e => h0 (by
                rw [← e, ← goldL_at atts segs.length k (by rw [goldL_len]; exact hk)]; exact List.getElem_mem _)
              have hsg := sum_le_golds HO.out hall segs.length 0 (by omega)
              have := HSV.out
              have e0 : (goldL atts 0).sum = 0 := by simp [goldL]
              refine decide_eq_false ?_
              omega
            rw [decide_eq_false h0]
            clear h0
            have W9 : ∃ W, W = w1 := ⟨_, rfl⟩
            obtain ⟨W, hW9⟩ := W9
            subst hW9
            go_wp2_with fail
            go_loopw [92] (fun i wr => ∃ j : Nat, j ≤ atts.length ∧ i = .int .i64 j ∧ Below W.heap.size W wr) (fun i _ => atts.length - (intOf i).toNat)
            case atStart => exact ⟨0, Nat.zero_le _, rfl, Below.refl _ _⟩
            case round =>
              obtain ⟨j, hj, rfl, hbw⟩ := hrel
              clear q0 q1 hz
              have hh := hh.below hbw
              have hk := hk.below hbw
              obtain ⟨q0, q1⟩ := hk.two_
              have hz := hk.lt
              have hzr := hbw.size
              by_cases hlt : j < atts.length
              · obtain ⟨b, off, B, cB, rfl, hbs, c0, c1', hrB⟩ := hh.att hlt
                have HSP := Lib.hid (HO.out.spl j hlt)
                have HR := Lib.hid (fun h9 hv => sum_le_reach HO.out hlt h9 hv)
                have hrA := hrB.alloc (.cells #[.int .i64 atts[j].1, .slice B atts[j].2.length cB] 45)
                have hkA : Blk (wr.alloc (.cells #[.int .i64 atts[j].1, .slice B atts[j].2.length cB] 45)) wr.heap.size 45 #[.int .i64 atts[j].1, .slice B atts[j].2.length cB] := Blk.new _ _ _
                have hba : Below W.heap.size W (wr.alloc (.cells #[.int .i64 atts[j].1, .slice B atts[j].2.length cB] 45)) := (by repeat (first | exact hbw | refine Below.alloc ?_ (by first | omega | (simp; omega)) _ | refine below_drewN' ?_ _ | refine Below.drew ?_))
                have hhA := hh.alloc (.cells #[.int .i64 atts[j].1, .slice B atts[j].2.length cB] 45)
                generalize atts[j].1 = no at *
                generalize atts[j].2 = l at *
                clear hrB
                rw [HSE.out] at HR
                go_wp2_with fail
                refine (Possible_ok SA _ B c' d' cB _ _ l segs atts _ hhA hc HO.out hrA HSP.out).mono ?_
                rintro e w5 ⟨rfl, hb5⟩
                have hx2 := below_up hba hb5
                clear hb5 hba hhA hrA hkA
                by_cases hv : 0 ≤ lvV (stepsA atts) segs.length l.length
                · have pb : possB segs atts l = true := decide_eq_true hv
                  have pn : decide (possN segs atts l < s) = false := by
                    refine decide_eq_false ?_
                    rw [possN_eq, if_neg (by omega)]
                    rcases Nat.eq_zero_or_pos l.length with h9 | h9
                    · rw [if_pos h9, h9]; have := HSV.out; omega
                    · rw [if_neg (by omega)]; have := (HR.out h9 hv).2; omega
                  rw [pb]
                  clear pb HR hv
                  generalize possN segs atts l = pp at *
                  go_wp2_with fail
                  go_roundw
                  case rel => exact ⟨j + 1, by omega, by go_num, hx2⟩
                  case measure => simp [intOf]; omega
                · have pb : possB segs atts l = false := decide_eq_false hv
                  rw [pb]
                  clear pb HR hv
                  generalize possN segs atts l = pp at *
                  go_wp2_with fail
                  go_roundw
                  case rel => exact ⟨j + 1, by omega, by go_num, hx2⟩
                  case measure => simp [intOf]; omega
              · go_wp2_with fail
                refine (ready_any _).mono ?_
                rintro e w9 ⟨rfl, hb9⟩
                go_wp2_with fail
                go_ret
                exact ⟨rfl, below_up (below_up hx hbw) hb9⟩
end Go.Proofs.YtagghmfhfboejaaGreatDoor
