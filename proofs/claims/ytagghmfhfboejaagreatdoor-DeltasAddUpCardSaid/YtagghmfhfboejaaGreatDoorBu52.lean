/- Texts of this seat, laid together: LawDeltasAddUp. -/
import Derived.Deep.DeepCutAuto
import Derived.Test.YtagghmfhfboejaaGreatDoorBu51
import Derived.Test.YtagghmfhfboejaaGreatDoorBu30
import Derived.Test.YtagghmfhfboejaaGreatDoorBu46
/- For every list of numbers the law DeltasAddUp returns true and leaves the list as it was: its walk. -/
namespace Go.Proofs.YtagghmfhfboejaaGreatDoor
set_option linter.unusedVariables false
set_option linter.unusedSimpArgs false
open Go.RowKit Go.Sort

set_option maxHeartbeats 8000000 in
set_option maxRecDepth 100000 in
theorem deltas_walk (A : Option Addr) (n c : Nat) (w : World) (hn : n ≤ 9223372036854775807)
    (hz : ∀ k, k < n → ∃ b off z, A = some ⟨b, off, none⟩ ∧ b < w.heap.size ∧ w.cell? ⟨b, off + k, none⟩ = some (.int .i64 z) ∧ I64 z) :
    LawCall 6 A n c w := by
  have hstr := str_make (c := c) hn hz
  clear hz
  have hb0 : Below w.heap.size w (w.alloc (.cells #[.slice A n c, .int .i64 0] 25)) := (Below.refl _ _).alloc (Nat.le_refl _) _
  have hz0 : (w.alloc (.cells #[.slice A n c, .int .i64 0] 25)).heap.size = w.heap.size + 1 := by simp
  go_enter Tryz.func6, Tryz.ntmps6
  go_wp2_with fail
  generalize w.alloc (.cells #[.slice A n c, .int .i64 0] 25) = w0 at *
  have HZ0 := Lib.hid hz0
  clear hz0
  have hgw : w.heap.size < w0.heap.size := by have := HZ0.out; omega
  refine (rightHistory_any w.heap.size 0 _ hstr (by omega)).mono ?_
  rintro e w2 ⟨SA, TA, c', d', segs, atts, rfl, hh, hc, n4, hm, hl, hok, hs1, hg1⟩
  have HO := Lib.hid hok
  have HF := Lib.hid (histF_zero hok)
  have n1 := hok.n1
  have hz9 : HistSz segs atts c' := ⟨hc, by omega, by omega, fun i h => by have := hl i h; omega, fun s hs => by
    obtain ⟨i, hi, rfl⟩ := List.mem_iff_getElem.1 hs
    have := hok.key i hi
    unfold keyB at this
    simp only [Bool.and_eq_true, decide_eq_true_eq] at this
    omega⟩
  clear hok hl
  go_wp2_with fail
  refine (range_any w.heap.size _ 1 6 _ hs1 (by omega) (by omega) (by omega) (by omega)).mono ?_
  rintro e w3 ⟨how, rfl, h1, h6, hs2, hg2⟩
  have hh := hh.stream hg2 hgw
  have hgr := grown_trans' hg1 hg2
  clear hs1 hg1 hg2
  go_wp2_with fail
  have hk : Blk (w3.alloc (.cells #[.slice SA segs.length c', .slice TA atts.length d'] 29)) w3.heap.size 29 #[.slice SA segs.length c', .slice TA atts.length d'] := Blk.new _ _ _
  have hh := hh.alloc (.cells #[.slice SA segs.length c', .slice TA atts.length d'] 29)
  have hs3 := hs2.alloc (.cells #[.slice SA segs.length c', .slice TA atts.length d'] 29)
  have hgr := grown_alloc hgr (.cells #[.slice SA segs.length c', .slice TA atts.length d'] 29)
  have hbx : w.heap.size < w3.heap.size := by have := hs2.lt; exact this
  clear hs2
  generalize w3.alloc (.cells #[.slice SA segs.length c', .slice TA atts.length d'] 29) = W at *
  generalize w3.heap.size = bx at *
  obtain ⟨q0, q1⟩ := hk.two_
  have hz := hk.lt
  refine (live_any w.heap.size _ segs.length atts.length c' d' 0 SA TA _ hs3 (by omega) (by omega)).mono ?_
  rintro e w4 ⟨A4, c4, live, rfl, ho4, hll, hs4, hg4⟩
  clear q0 q1 hz
  have hh := hh.stream hg4 hgw
  have hk := hk.stream hg4 hbx
  have hgr := grown_trans' hgr hg4
  have hx : Below w.heap.size w w4 := hb0.grown hgr (by omega) (fun k hk => by injection hk with hk; omega)
  have hrL : Row w4 0 1 A4 live.length (ints live) := (Row.of_own ho4).weak (Nat.zero_le _)
  clear hs3 hs4 hg4 hgr ho4 hb0 hstr
  obtain ⟨q0, q1⟩ := hk.two_
  have hz := hk.lt
  go_wp2_with fail
  refine (rsplitsFault_any segs.length A4 _ _ live _ hrL (by omega) (by omega)).mono ?_
  rintro e w9 ⟨rfl, rfl⟩
  by_cases hsf : splF segs.length live = 0
  · have HL := Lib.hid (splF_ok hsf)
    have HE : Hid (hfE segs atts how = 0) := Lib.hid (by rw [hfE_ok HF.out]; unfold howE; rw [if_neg (by omega)])
    have hcp : cpE segs atts how live = 0 := by unfold cpE; rw [firstE_two, HE.out, hsf]; rfl
    have HCP := Lib.hid hcp
    rw [hsf]
    clear hsf hcp
    go_wp2_with fail
    refine (Compare_ok SA TA A4 c' d' _ _ _ how live segs atts _ hh hz9 hrL (by omega) HO.out HL.out HCP.out).mono ?_
    rintro e w5 ⟨A5, c5, rfl, ho5, hb⟩
    clear q0 q1 hz
    have hh := hh.below hb
    have hk := hk.below hb
    have hx := below_up hx hb
    obtain ⟨q0, q1⟩ := hk.two_
    have hz := hk.lt
    clear hb hrL
    have hrD := Row.of_own ho5
    have hDL : (cdL segs atts how live).length ≤ 60 ∧ ((cmpO segs.length atts how).isSome = true → (cdL segs atts how live).length = live.length) := by
      cases hco : cmpO segs.length atts how with
      | none => rw [cdL_none hco]; simp
      | some o => rw [cdL_some hco, dltL_len]; exact ⟨by omega, fun _ => rfl⟩
    have HDI : Hid (∃ o, cdL segs atts how live = dltL segs atts live o (cdL segs atts how live).length ∧ ∀ k, -51840000000 ≤ dLate live o k ∧ dLate live o k ≤ 51840000000) := Lib.hid (by
      cases hco : cmpO segs.length atts how with
      | none => exact ⟨[], by rw [cdL_none hco]; rfl, fun k => dLate_bd (n := 0) HL.out.bd (fun l h => by injection h with h; subst h; exact ⟨rfl, fun i h => absurd h (Nat.not_lt_zero _)⟩) k⟩
      | some o =>
        refine ⟨o, by rw [cdL_some hco, dltL_len], fun k => dLate_bd (n := segs.length) HL.out.bd ?_ k⟩
        have := cmp_ok HO.out how
        rw [hco] at this
        exact this)
    obtain ⟨hD60, hDS⟩ := hDL
    obtain ⟨o, hD, hLB⟩ := HDI.out
    have HD := Lib.hid hD
    have HLB := Lib.hid hLB
    clear HDI ho5 hD hLB
    generalize (cmpO segs.length atts how).isSome = is at *
    generalize cdL segs atts how live = ds at *
    have HE1 : Hid (hfE segs atts 1 = 0) := Lib.hid (by rw [hfE_ok HF.out]; rfl)
    cases is
    · clear hDS
      go_wp2_with fail
      go_loopw [10, 11, 57] (fun s v i wr => ∃ k : Nat, k ≤ ds.length ∧ i = .int .i64 k ∧ s = .int .i64 (dLate live o k) ∧ v = .int .i64 (dLate live o k) ∧ Below w5.heap.size w5 wr) (fun _ _ i _ => ds.length - (intOf i).toNat)
      case atStart => exact ⟨0, Nat.zero_le _, rfl, rfl, rfl, Below.refl _ _⟩
      case round =>
        obtain ⟨k, hk9, rfl, rfl, rfl, hbw⟩ := hrel
        have hzw := hbw.size
        by_cases hlt : k < ds.length
        · obtain ⟨b, off, rfl, _, hbs, c0, c1, c2, c3⟩ := (hrD.below hbw).dl_at hlt
          have hdk : ds[k] = dAt segs atts live o k := by
            have h : ds[k]? = (dltL segs atts live o ds.length)[k]? := congrArg (fun l : List Dlt => l[k]?) HD.out
            rw [List.getElem?_eq_getElem hlt, List.getElem?_eq_getElem (by rw [dltL_len]; exact hlt), dltL_at] at h
            exact Option.some.inj h
          rw [hdk] at c0 c1 c2 c3
          obtain ⟨l1, l2⟩ := dAt_law segs atts live o k
          have b1 := HLB.out k
          have b2 := HLB.out (k + 1)
          have HB : Hid (dLate live o (k + 1) = dLate live o (k + 1)) := Lib.hid rfl
          generalize (dAt segs atts live o k).2.1 = x at *
          generalize (dAt segs atts live o k).2.2.1 = y at *
          generalize (dAt segs atts live o k).2.2.2 = gd at *
          generalize (dAt segs atts live o k).1 = sd at *
          generalize dLate live o k = a at *
          generalize hbv : dLate live o (k + 1) = bv at *
          have HBV := Lib.hid hbv
          have wx : IntKind.i64.wrap (a + y) = bv := by rw [IntWalk.i64_in _ ⟨by omega, by omega⟩]; omega
          unfold encStr at c0
          clear hbv HB hdk
          by_cases hx0 : x = 0
          · by_cases hy0 : y = 0
            · have e : a = bv := by omega
              subst hx0 hy0 e
              clear l1 l2
              go_wp2_with fail
              go_roundw
              case rel => exact ⟨k + 1, by omega, by go_num, by rw [HBV.out], by rw [HBV.out], (by repeat (first | exact hbw | refine Below.alloc ?_ (by first | omega | (simp; omega)) _ | refine below_drewN' ?_ _ | refine Below.drew ?_))⟩
              case measure => simp [intOf]; omega
            · have e : bv = 0 := by omega
              have dy : (y != 0) = true := by simpa using hy0
              subst hx0 e
              clear l1 l2 hy0
              go_wp2_with fail
              go_roundw
              case rel => exact ⟨k + 1, by omega, by go_num, by rw [HBV.out], by rw [HBV.out], (by repeat (first | exact hbw | refine Below.alloc ?_ (by first | omega | (simp; omega)) _ | refine below_drewN' ?_ _ | refine Below.drew ?_))⟩
              case measure => simp [intOf]; omega
          · have e : x = bv := by omega
            have dx : (x != 0) = true := by simpa using hx0
            subst e
            clear l1 l2 hx0
            go_wp2_with fail
            go_roundw
            case rel => exact ⟨k + 1, by omega, by go_num, by rw [HBV.out], by rw [HBV.out], (by repeat (first | exact hbw | refine Below.alloc ?_ (by first | omega | (simp; omega)) _ | refine below_drewN' ?_ _ | refine Below.drew ?_))⟩
            case measure => simp [intOf]; omega
        · have hkn : k = ds.length := by omega
          subst hkn
          have hh := hh.below hbw
          have hk := hk.below hbw
          have hx := below_up hx hbw
          clear q0 q1 hz
          obtain ⟨q0, q1⟩ := hk.two_
          have hz := hk.lt
          clear hbw hrD
          go_wp2_with fail
          refine (Splits_ok SA TA c' d' _ 1 segs atts _ hh hz9 HO.out HE1.out).mono ?_
          rintro e w6 ⟨A6, c6, rfl, ho6, hb⟩
          have hh := hh.below hb
          have hk := hk.below hb
          have hx := below_up hx hb
          clear q0 q1 hz hb
          obtain ⟨q0, q1⟩ := hk.two_
          have hz := hk.lt
          rcases bI_inv segs.length atts atts.length (Nat.le_refl _) with hbi | ⟨j, hj, hbi, _, hjn⟩
          · have hC : cmpO segs.length atts 1 = none := by rw [cmpO_1, bestO_none hbi]
            rw [hC]
            clear hC hbi ho6
            go_wp2_with fail
            refine (ready_any _).mono ?_
            rintro e w9 ⟨rfl, hb9⟩
            go_wp2_with fail
            go_ret
            exact ⟨rfl, below_up hx hb9⟩
          · have hC : cmpO segs.length atts 1 = some atts[j].2 := by rw [cmpO_1, bestO_at hbi hj]
            have HSJ := Lib.hid (HO.out.spl j hj)
            have HSE := Lib.hid (dlt_self HO.out hj atts[j].2.length)
            have HCD := Lib.hid (cdL_some (segs := segs) (live := atts[j].2) hC)
            have HC := Lib.hid hC
            rw [hC] at ho6 ⊢
            rw [optL_some] at ho6 ⊢
            have hrO := Row.of_own ho6
            have HCP1 : Hid (cpE segs atts 1 atts[j].2 = 0) := Lib.hid (by unfold cpE; rw [firstE_two, HE1.out, splF_zero HSJ.out]; rfl)
            clear hC hbi ho6 hjn
            have hol : atts[j].2.length ≤ 60 := by have := HSJ.out.len; omega
            generalize atts[j].2 = own at *
            go_wp2_with fail
            refine (Compare_ok SA TA A6 c' d' _ _ _ 1 own segs atts _ hh hz9 hrO (by omega) HO.out HSJ.out HCP1.out).mono ?_
            rintro e w7 ⟨A7, c7, rfl, ho7, hb⟩
            have hx := below_up hx hb
            have hk := hk.below hb
            clear q0 q1 hz hb
            rw [HC.out]
            rw [HCD.out] at ho7 ⊢
            have hrD := Row.of_own ho7
            have hdl : (dltL segs atts own own own.length).length ≤ 60 := by rw [dltL_len]; omega
            clear ho7 HCD HC
            generalize dltL segs atts own own own.length = dd at *
            go_wp2_with fail
            refine (containsFuncD_any A7 c7 _ dd _ hrD (by omega) HSE.out).mono ?_
            rintro e w8 ⟨rfl, hb8⟩
            have hx := below_up hx hb8
            go_wp2_with fail
            refine (ready_any _).mono ?_
            rintro e w9 ⟨rfl, hb9⟩
            go_wp2_with fail
            go_ret
            exact ⟨rfl, below_up hx hb9⟩
    · have hds := hDS rfl
      have dl : ((ds.length : Int) != (live.length : Int)) = false := by rw [hds]; simp
      have dl' : (ds.length != live.length) = false := by rw [hds]; simp
      clear hDS
      rw [← hds] at hll
      clear hds
      go_wp2_with fail
      go_loopw [10, 11, 57] (fun s v i wr => ∃ k : Nat, k ≤ ds.length ∧ i = .int .i64 k ∧ s = .int .i64 (dLate live o k) ∧ v = .int .i64 (dLate live o k) ∧ Below w5.heap.size w5 wr) (fun _ _ i _ => ds.length - (intOf i).toNat)
      case atStart => exact ⟨0, Nat.zero_le _, rfl, rfl, rfl, Below.refl _ _⟩
      case round =>
        obtain ⟨k, hk9, rfl, rfl, rfl, hbw⟩ := hrel
        have hzw := hbw.size
        by_cases hlt : k < ds.length
        · obtain ⟨b, off, rfl, _, hbs, c0, c1, c2, c3⟩ := (hrD.below hbw).dl_at hlt
          have hdk : ds[k] = dAt segs atts live o k := by
            have h : ds[k]? = (dltL segs atts live o ds.length)[k]? := congrArg (fun l : List Dlt => l[k]?) HD.out
            rw [List.getElem?_eq_getElem hlt, List.getElem?_eq_getElem (by rw [dltL_len]; exact hlt), dltL_at] at h
            exact Option.some.inj h
          rw [hdk] at c0 c1 c2 c3
          obtain ⟨l1, l2⟩ := dAt_law segs atts live o k
          have b1 := HLB.out k
          have b2 := HLB.out (k + 1)
          have HB : Hid (dLate live o (k + 1) = dLate live o (k + 1)) := Lib.hid rfl
          generalize (dAt segs atts live o k).2.1 = x at *
          generalize (dAt segs atts live o k).2.2.1 = y at *
          generalize (dAt segs atts live o k).2.2.2 = gd at *
          generalize (dAt segs atts live o k).1 = sd at *
          generalize dLate live o k = a at *
          generalize hbv : dLate live o (k + 1) = bv at *
          have HBV := Lib.hid hbv
          have wx : IntKind.i64.wrap (a + y) = bv := by rw [IntWalk.i64_in _ ⟨by omega, by omega⟩]; omega
          unfold encStr at c0
          clear hbv HB hdk
          by_cases hx0 : x = 0
          · by_cases hy0 : y = 0
            · have e : a = bv := by omega
              subst hx0 hy0 e
              clear l1 l2
              go_wp2_with fail
              go_roundw
              case rel => exact ⟨k + 1, by omega, by go_num, by rw [HBV.out], by rw [HBV.out], (by repeat (first | exact hbw | refine Below.alloc ?_ (by first | omega | (simp; omega)) _ | refine below_drewN' ?_ _ | refine Below.drew ?_))⟩
              case measure => simp [intOf]; omega
            · have e : bv = 0 := by omega
              have dy : (y != 0) = true := by simpa using hy0
              subst hx0 e
              clear l1 l2 hy0
              go_wp2_with fail
              go_roundw
              case rel => exact ⟨k + 1, by omega, by go_num, by rw [HBV.out], by rw [HBV.out], (by repeat (first | exact hbw | refine Below.alloc ?_ (by first | omega | (simp; omega)) _ | refine below_drewN' ?_ _ | refine Below.drew ?_))⟩
              case measure => simp [intOf]; omega
          · have e : x = bv := by omega
            have dx : (x != 0) = true := by simpa using hx0
            subst e
            clear l1 l2 hx0
            go_wp2_with fail
            go_roundw
            case rel => exact ⟨k + 1, by omega, by go_num, by rw [HBV.out], by rw [HBV.out], (by repeat (first | exact hbw | refine Below.alloc ?_ (by first | omega | (simp; omega)) _ | refine below_drewN' ?_ _ | refine Below.drew ?_))⟩
            case measure => simp [intOf]; omega
        · have hkn : k = ds.length := by omega
          subst hkn
          have hh := hh.below hbw
          have hk := hk.below hbw
          have hx := below_up hx hbw
          clear q0 q1 hz
          obtain ⟨q0, q1⟩ := hk.two_
          have hz := hk.lt
          clear hbw hrD
          go_wp2_with fail
          refine (Splits_ok SA TA c' d' _ 1 segs atts _ hh hz9 HO.out HE1.out).mono ?_
          rintro e w6 ⟨A6, c6, rfl, ho6, hb⟩
          have hh := hh.below hb
          have hk := hk.below hb
          have hx := below_up hx hb
          clear q0 q1 hz hb
          obtain ⟨q0, q1⟩ := hk.two_
          have hz := hk.lt
          rcases bI_inv segs.length atts atts.length (Nat.le_refl _) with hbi | ⟨j, hj, hbi, _, hjn⟩
          · have hC : cmpO segs.length atts 1 = none := by rw [cmpO_1, bestO_none hbi]
            rw [hC]
            clear hC hbi ho6
            go_wp2_with fail
            refine (ready_any _).mono ?_
            rintro e w9 ⟨rfl, hb9⟩
            go_wp2_with fail
            go_ret
            exact ⟨rfl, below_up hx hb9⟩
          · have hC : cmpO segs.length atts 1 = some atts[j].2 := by rw [cmpO_1, bestO_at hbi hj]
            have HSJ := Lib.hid (HO.out.spl j hj)
            have HSE := Lib.hid (dlt_self HO.out hj atts[j].2.length)
            have HCD := Lib.hid (cdL_some (segs := segs) (live := atts[j].2) hC)
            have HC := Lib.hid hC
            rw [hC] at ho6 ⊢
            rw [optL_some] at ho6 ⊢
            have hrO := Row.of_own ho6
            have HCP1 : Hid (cpE segs atts 1 atts[j].2 = 0) := Lib.hid (by unfold cpE; rw [firstE_two, HE1.out, splF_zero HSJ.out]; rfl)
            clear hC hbi ho6 hjn
            have hol : atts[j].2.length ≤ 60 := by have := HSJ.out.len; omega
            generalize atts[j].2 = own at *
            go_wp2_with fail
            refine (Compare_ok SA TA A6 c' d' _ _ _ 1 own segs atts _ hh hz9 hrO (by omega) HO.out HSJ.out HCP1.out).mono ?_
            rintro e w7 ⟨A7, c7, rfl, ho7, hb⟩
            have hx := below_up hx hb
            have hk := hk.below hb
            clear q0 q1 hz hb
            rw [HC.out]
            rw [HCD.out] at ho7 ⊢
            have hrD := Row.of_own ho7
            have hdl : (dltL segs atts own own own.length).length ≤ 60 := by rw [dltL_len]; omega
            clear ho7 HCD HC
            generalize dltL segs atts own own own.length = dd at *
            go_wp2_with fail
            refine (containsFuncD_any A7 c7 _ dd _ hrD (by omega) HSE.out).mono ?_
            rintro e w8 ⟨rfl, hb8⟩
            have hx := below_up hx hb8
            go_wp2_with fail
            refine (ready_any _).mono ?_
            rintro e w9 ⟨rfl, hb9⟩
            go_wp2_with fail
            go_ret
            exact ⟨rfl, below_up hx hb9⟩
  · have d5 : (splF segs.length live != 0) = true := by simpa using hsf
    clear hsf
    go_wp2_with fail
    refine (ready_any _).mono ?_
    rintro e w9 ⟨rfl, hb9⟩
    go_wp2_with fail
    go_ret
    exact ⟨rfl, below_up hx hb9⟩
end Go.Proofs.YtagghmfhfboejaaGreatDoor
