/- Texts of this seat, laid together: Hb. -/
import Derived.Test.YtlinbaojkmcbeaaGreatDoorBv15
import Derived.Test.YtlinbaojkmcbeaaGreatDoorBv16
import Derived.Test.YtlinbaojkmcbeaaGreatDoorBv09
/- The walks of segment.CheckHistory and of splitref1.HistoryFault at any history. -/
namespace Go.Proofs.YtlinbaojkmcbeaaGreatDoor
set_option linter.unusedVariables false
set_option linter.unusedSimpArgs false
open Go.RowKit Go.Sort

set_option maxHeartbeats 4000000 in
set_option maxRecDepth 100000 in
theorem checkHistory_any (SA TA : Option Addr) (c d lo : Nat) (segs : List (List UInt8)) (atts : List Att) (w : World) (hh : Hist w lo SA TA segs atts) (hc : segs.length ≤ c) (h9 : segs.length ≤ 1000000000) (h8 : atts.length ≤ 1000000000) (h7 : ∀ i (h : i < atts.length), atts[i].2.length ≤ 1000000000) (h6 : ∀ s ∈ segs, s.length ≤ 1000000000) :
    Calls Tryz.prog 69 #[.agg #[.slice SA segs.length c, .slice TA atts.length d]] w fun e w' => e = .returned (.int .i64 (histF segs atts)) ∧ Below w.heap.size w w' := by
  have H7 := Lib.hid h7
  have H6 := Lib.hid h6
  clear h7 h6
  by_cases n1 : segs.length = 0
  · have HF := Lib.hid (histF_none atts n1)
    have e1 : ((segs.length : Int) == 0) = true := by rw [beq_iff_eq]; omega
    clear n1
    go_enter Tryz.func69, Tryz.ntmps69
    go_wp2_with fail
    go_ret
    exact ⟨ret_int' HF.out.symm, (Below.refl _ _).alloc (Nat.le_refl _) _⟩
  have e1 : ((segs.length : Int) == 0) = false := by rw [beq_eq_false_iff_ne]; omega
  by_cases n2 : 60 < segs.length
  · have HF := Lib.hid (histF_large atts n2)
    have e2 : decide ((60 : Int) < (segs.length : Int)) = true := by simp; omega
    clear n1
    go_enter Tryz.func69, Tryz.ntmps69
    go_wp2_with fail
    go_ret
    exact ⟨ret_int' HF.out.symm, (Below.refl _ _).alloc (Nat.le_refl _) _⟩
  have e2 : decide ((60 : Int) < (segs.length : Int)) = false := by simp; omega
  have HK5 := Lib.hid (fun k (hk : k < segs.length) h0 h => histF_key atts n1 n2 hk h0 h)
  have HK6 := Lib.hid (fun k (hk : k < segs.length) h0 h hm => histF_twice atts n1 n2 hk h0 h hm)
  have HK2 := Lib.hid (fun h0 h => histF_many (atts := atts) n1 n2 h0 h)
  have HKA := Lib.hid (fun h0 h => histF_atts (atts := atts) n1 n2 h0 h)
  clear n1 n2
  go_enter Tryz.func69, Tryz.ntmps69
  go_wp2_with fail
  have hb0 : Below w.heap.size w (w.alloc (.cells #[.slice SA segs.length c, .slice TA atts.length d] 93)) := (Below.refl _ _).alloc (Nat.le_refl _) _
  have hk0 : Blk (w.alloc (.cells #[.slice SA segs.length c, .slice TA atts.length d] 93)) w.heap.size 93 #[.slice SA segs.length c, .slice TA atts.length d] := Blk.new _ _ _
  have hh0 := hh.alloc (.cells #[.slice SA segs.length c, .slice TA atts.length d] 93)
  generalize w.alloc (.cells #[.slice SA segs.length c, .slice TA atts.length d] 93) = w0 at *
  have hz0 := hk0.lt
  obtain ⟨k0, k1⟩ := hk0.two_
  clear hh
  go_loopw [21] (fun i wr => ∃ k : Nat, k ≤ segs.length ∧ i = .int .i64 k ∧ Hid (segsF [] (segs.take k) = 0) ∧ Below w0.heap.size w0 wr) (fun i _ => segs.length - (intOf i).toNat)
  case atStart => exact ⟨0, Nat.zero_le _, rfl, Lib.hid rfl, Below.refl _ _⟩
  case round =>
    obtain ⟨k, hk, rfl, H0, hbw⟩ := hrel
    have hzr := hbw.size
    have hhw := hh0.below hbw
    have hkw := hk0.below hbw
    obtain ⟨q0, q1⟩ := hkw.two_
    clear k0 k1
    by_cases hlt : k < segs.length
    · have hpre := hhw.1.pre k (by omega)
      obtain ⟨b, off, rfl, _, hbs, c0⟩ := hhw.1.str_at hlt
      have HA := Lib.hid (fun h => HK5.out k hlt H0.out h)
      have HB := Lib.hid (fun h hm => HK6.out k hlt H0.out h hm)
      have HN := Lib.hid (fun h hm => segsF_next hlt H0.out h hm)
      have hlen : (segs.take k).length = k := by simp; omega
      have HL := Lib.hid hlen
      have HZ := Lib.hid (H6.out segs[k] (List.getElem_mem _))
      clear hlen
      generalize segs[k] = z at *
      unfold encStr at c0
      go_wp2_with fail
      refine (key_any _ _).mono ?_
      rintro e w1 ⟨rfl, rfl⟩
      have ez : (⟨z.toArray⟩ : ByteArray).data.toList = z := by simp
      rw [ez]
      clear ez
      cases hq : keyB z
      · have HF := Lib.hid (HA.out hq)
        clear hq HB HN
        go_wp2_with fail
        go_ret
        exact ⟨ret_int' HF.out.symm, below_up hb0 hbw⟩
      · have HB1 := Lib.hid (fun hm => HB.out hq hm)
        have HN1 := Lib.hid (fun hm => HN.out hq hm)
        clear hq HA HB HN
        go_wp2_with fail
        refine Calls.mono (by rw [← HL.out]; exact containsS_any _ _ _ (segs.take k) z _ hpre (by have := HL.out; omega)) ?_
        rintro e w2 ⟨rfl, rfl⟩
        by_cases hm : z ∈ segs.take k
        · have HF := Lib.hid (HB1.out hm)
          rw [decide_eq_true hm]
          clear hm
          go_wp2_with fail
          go_ret
          exact ⟨ret_int' HF.out.symm, below_up hb0 hbw⟩
        · have HF := Lib.hid (HN1.out hm)
          rw [decide_eq_false hm]
          clear hm
          go_wp2_with fail
          go_roundw
          case rel => exact ⟨k + 1, by omega, by go_num, HF, hbw⟩
          case measure => simp [intOf]; omega
    · have hkn : k = segs.length := by omega
      have HS : Hid (segsF [] segs = 0) := Lib.hid (by have := H0.out; rwa [List.take_of_length_le (by omega)] at this)
      subst hkn
      clear H0
      by_cases n3 : 500 < atts.length
      · have HF := Lib.hid (HK2.out HS.out n3)
        have e3 : decide ((500 : Int) < (atts.length : Int)) = true := by simp; omega
        clear n3
        go_wp2_with fail
        go_ret
        exact ⟨ret_int' HF.out.symm, below_up hb0 hbw⟩
      have e3 : decide ((500 : Int) < (atts.length : Int)) = false := by simp; omega
      have HFA := Lib.hid (HKA.out HS.out n3)
      clear n3 HK2 HK5 HK6 HKA
      have hx0 := below_up hb0 hbw
      clear hb0 hbw hh0 hk0 hz0 hzr
      obtain ⟨W, hW⟩ : ∃ W, W = wr := ⟨_, rfl⟩
      subst hW
      go_wp2_with fail
      go_loopw [43] (fun i wr => ∃ k : Nat, k ≤ atts.length ∧ i = .int .i64 k ∧ Hid (attsF segs.length 0 (atts.take k) = 0) ∧ Below W.heap.size W wr) (fun i _ => atts.length - (intOf i).toNat)
      case atStart => exact ⟨0, Nat.zero_le _, rfl, Lib.hid rfl, Below.refl _ _⟩
      case round =>
        obtain ⟨k, hk, rfl, H0, hbw⟩ := hrel
        have hz := hbw.size
        by_cases hlt2 : k < atts.length
        · have hhv := hhw.below hbw
          have hkv := hkw.below hbw
          have hzw := hkv.lt
          obtain ⟨a0, a1⟩ := hkv.two_
          obtain ⟨b, off, B, cB, rfl, hbs, c0, c1, hrB⟩ := hhv.att hlt2
          have hrBa := hrB.alloc (.cells #[.int .i64 atts[k].1, .slice B atts[k].2.length cB] 90)
          have hlB := H7.out k hlt2
          have H1 := Lib.hid (fun h => attsF_no hlt2 H0.out h)
          go_wp2_with fail
          refine (out_any _ _ _ _).mono ?_
          rintro e w1 ⟨rfl, rfl⟩
          by_cases hno : atts[k].1 < 1 ∨ 1000000 < atts[k].1
          · have HF : Hid (histF segs atts = 1) := Lib.hid (HFA.out.trans (H1.out hno))
            have dd : (decide (atts[k].1 < 1) || decide (1000000 < atts[k].1)) = true := by simp; omega
            rw [dd]
            clear dd hno H1
            go_wp2_with fail
            go_ret
            exact ⟨ret_int' HF.out.symm, below_up hx0 (by repeat (first | exact hbw | refine Below.alloc ?_ (by first | omega | (simp; omega)) _ | refine below_drewN' ?_ _ | refine Below.drew ?_))⟩
          have dd : (decide (atts[k].1 < 1) || decide (1000000 < atts[k].1)) = false := by simp; omega
          rw [dd]
          clear dd H1
          have HSP := Lib.hid (fun hu hs => attsF_spl hlt2 H0.out hno hu hs)
          have HNX := Lib.hid (fun hu hs => attsF_next hlt2 H0.out hno hu hs)
          by_cases hk0' : k = 0
          · have HU : Hid (upN atts k hlt2) := Lib.hid (fun j hj => by omega)
            have HSP1 := Lib.hid (fun hs => HSP.out HU.out hs)
            have HNX1 := Lib.hid (fun hs => HNX.out HU.out hs)
            have d0 : decide ((0 : Int) < (k : Int)) = false := by simp; omega
            have d0' : decide (0 < k) = false := by simp; omega
            have d1 : (k : Int) ≤ 0 := by omega
            clear hk0' hno HSP HNX HU
            go_wp2_with fail
            go_quiet (fail)
            go_wp2_with fail
            refine (splitsFault_any segs.length B _ _ _ _ (Row.drewN hrBa _) h9 hlB).mono ?_
            rintro e w1 ⟨rfl, rfl⟩
            by_cases hs : splF segs.length atts[k].2 = 0
            · have HF := Lib.hid (HNX1.out hs)
              rw [hs]
              clear hs HSP1 HNX1
              go_wp2_with fail
              go_roundw
              case rel => exact ⟨k + 1, by omega, by go_num, HF, (by repeat (first | exact hbw | refine Below.alloc ?_ (by first | omega | (simp; omega)) _ | refine below_drewN' ?_ _ | refine Below.drew ?_))⟩
              case measure => simp [intOf]; omega
            · have HF : Hid (histF segs atts = splF segs.length atts[k].2) := Lib.hid (HFA.out.trans (HSP1.out hs))
              have d5 : (splF segs.length atts[k].2 != 0) = true := by simpa using hs
              clear hs HSP1 HNX1
              generalize splF segs.length atts[k].2 = ef at *
              go_wp2_with fail
              go_ret
              exact ⟨ret_int' HF.out.symm, below_up hx0 (by repeat (first | exact hbw | refine Below.alloc ?_ (by first | omega | (simp; omega)) _ | refine below_drewN' ?_ _ | refine Below.drew ?_))⟩
          · have hk1 : k - 1 < atts.length := by omega
            obtain ⟨b', off', B', cB', e', hbs', p0, _, _⟩ := hhv.att (i := k - 1) hk1
            obtain ⟨rfl, rfl⟩ : b' = b ∧ off' = off := by injection e' with e'; injection e' with h1 h2; exact ⟨h1.symm, h2.symm⟩
            clear e'
            have d0 : decide ((0 : Int) < (k : Int)) = true := by simp; omega
            have d0' : decide (0 < k) = true := by simp; omega
            have d1 : (0 : Int) < (k : Int) := by omega
            have d3 : IntKind.i64.wrap ((k : Int) - 1) = (k : Int) - 1 := IntWalk.i64_in _ (by omega)
            by_cases ho : atts[k].1 ≤ atts[k - 1].1
            · have HF : Hid (histF segs atts = 7) := Lib.hid (by
                obtain ⟨m, rfl⟩ : ∃ m, k = m + 1 := ⟨k - 1, by omega⟩
                exact HFA.out.trans (attsF_ord hlt2 H0.out hno (by simpa using ho)))
              have d2 : decide (atts[k].1 ≤ atts[k - 1].1) = true := by simpa using ho
              clear ho hno HSP HNX
              go_wp2_with fail
              go_quiet (fail)
              clear d3
              go_wp2_with fail
              go_ret
              exact ⟨ret_int' HF.out.symm, below_up hx0 (by repeat (first | exact hbw | refine Below.alloc ?_ (by first | omega | (simp; omega)) _ | refine below_drewN' ?_ _ | refine Below.drew ?_))⟩
            · have HU : Hid (upN atts k hlt2) := Lib.hid (fun j hj => by
                have : j = k - 1 := by omega
                subst this; omega)
              have HSP1 := Lib.hid (fun hs => HSP.out HU.out hs)
              have HNX1 := Lib.hid (fun hs => HNX.out HU.out hs)
              have d2 : decide (atts[k].1 ≤ atts[k - 1].1) = false := by simpa using ho
              clear ho hno HSP HNX HU
              go_wp2_with fail
              go_quiet (fail)
              clear d3
              go_wp2_with fail
              refine (splitsFault_any segs.length B _ _ _ _ (Row.drewN hrBa _) h9 hlB).mono ?_
              rintro e w1 ⟨rfl, rfl⟩
              by_cases hs : splF segs.length atts[k].2 = 0
              · have HF := Lib.hid (HNX1.out hs)
                rw [hs]
                clear hs HSP1 HNX1
                go_wp2_with fail
                go_roundw
                case rel => exact ⟨k + 1, by omega, by go_num, HF, (by repeat (first | exact hbw | refine Below.alloc ?_ (by first | omega | (simp; omega)) _ | refine below_drewN' ?_ _ | refine Below.drew ?_))⟩
                case measure => simp [intOf]; omega
              · have HF : Hid (histF segs atts = splF segs.length atts[k].2) := Lib.hid (HFA.out.trans (HSP1.out hs))
                have d5 : (splF segs.length atts[k].2 != 0) = true := by simpa using hs
                clear hs HSP1 HNX1
                generalize splF segs.length atts[k].2 = ef at *
                go_wp2_with fail
                go_ret
                exact ⟨ret_int' HF.out.symm, below_up hx0 (by repeat (first | exact hbw | refine Below.alloc ?_ (by first | omega | (simp; omega)) _ | refine below_drewN' ?_ _ | refine Below.drew ?_))⟩
        · have HF : Hid (histF segs atts = 0) := Lib.hid (by have := H0.out; rw [List.take_of_length_le (by omega)] at this; exact HFA.out.trans this)
          go_wp2_with fail
          go_ret
          exact ⟨ret_int' HF.out.symm, below_up hx0 hbw⟩

end Go.Proofs.YtlinbaojkmcbeaaGreatDoor
