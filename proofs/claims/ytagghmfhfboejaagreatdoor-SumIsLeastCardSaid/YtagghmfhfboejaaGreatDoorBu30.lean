/- Texts of this seat, laid together: Hf Hh Hi Ht. -/
import Derived.Test.YtagghmfhfboejaaGreatDoorBu21
import Derived.Test.YtagghmfhfboejaaGreatDoorBu27
import Derived.Test.YtagghmfhfboejaaGreatDoorBu28
import Derived.Test.YtagghmfhfboejaaGreatDoorBu19
import Derived.Test.YtagghmfhfboejaaGreatDoorBu29
import Derived.Test.YtagghmfhfboejaaGreatDoorBu11
/- The walks of segment.Times, Golds, Records (and of SumOfBest and Best where a history is not right), splitref1.AttemptAt and RecordsOf. -/
namespace Go.Proofs.YtagghmfhfboejaaGreatDoor
set_option linter.unusedVariables false
set_option linter.unusedSimpArgs false
open Go.RowKit

/-- Sizes that no check refuses. -/
structure HistSz (segs : List (List UInt8)) (atts : List Att) (c : Nat) : Prop where
  hc : segs.length ≤ c
  h9 : segs.length ≤ 1000000000
  h8 : atts.length ≤ 1000000000
  h7 : ∀ i (h : i < atts.length), atts[i].2.length ≤ 1000000000
  h6 : ∀ s ∈ segs, s.length ≤ 1000000000
set_option maxHeartbeats 1000000 in
theorem Times_bad (SA TA : Option Addr) (c d lo : Nat) (no : Int) (segs : List (List UInt8)) (atts : List Att) (w : World) (hh : Hist w lo SA TA segs atts) (hz : HistSz segs atts c) (hf : histF segs atts ≠ 0) :
    Calls Tryz.prog 11 #[.agg #[.slice SA segs.length c, .slice TA atts.length d], .int .i64 no] w fun e w' => e = .returned (.tuple #[.slice none 0 0, .int .i64 (histF segs atts)]) ∧ Below w.heap.size w w' := by
  have d5 : (histF segs atts != 0) = true := by simpa using hf
  clear hf
  go_enter Tryz.func11, Tryz.ntmps11
  go_wp2_with fail
  have hb0 : Below w.heap.size w (w.alloc (.cells #[.slice SA segs.length c, .slice TA atts.length d] 29)) := (Below.refl _ _).alloc (Nat.le_refl _) _
  have hk0 : Blk (w.alloc (.cells #[.slice SA segs.length c, .slice TA atts.length d] 29)) w.heap.size 29 #[.slice SA segs.length c, .slice TA atts.length d] := Blk.new _ _ _
  have hh0 := hh.alloc (.cells #[.slice SA segs.length c, .slice TA atts.length d] 29)
  generalize w.alloc (.cells #[.slice SA segs.length c, .slice TA atts.length d] 29) = w0 at *
  refine (checkHistory_any _ _ _ _ _ segs atts _ hh0 hz.hc hz.h9 hz.h8 hz.h7 hz.h6).mono ?_
  rintro e w1 ⟨rfl, hb1⟩
  have hh1 := hh0.below hb1
  have hk1 := hk0.below hb1
  have hx1 := hb0.trans (hb1.mono hb0.size)
  clear hb1 hb0 hh0 hk0 hh
  generalize he : histF segs atts = ef at *
  have HE := Lib.hid he
  clear he
  go_wp2_with fail
  go_returns
  exact ⟨by first | (rw [HE.out]; done) | (rw [HE.out]; rfl), hx1⟩
set_option maxHeartbeats 1000000 in
theorem Golds_bad (SA TA : Option Addr) (c d lo : Nat) (segs : List (List UInt8)) (atts : List Att) (w : World) (hh : Hist w lo SA TA segs atts) (hz : HistSz segs atts c) (hf : histF segs atts ≠ 0) :
    Calls Tryz.prog 12 #[.agg #[.slice SA segs.length c, .slice TA atts.length d]] w fun e w' => e = .returned (.tuple #[.slice none 0 0, .int .i64 (histF segs atts)]) ∧ Below w.heap.size w w' := by
  have d5 : (histF segs atts != 0) = true := by simpa using hf
  clear hf
  go_enter Tryz.func12, Tryz.ntmps12
  go_wp2_with fail
  have hb0 : Below w.heap.size w (w.alloc (.cells #[.slice SA segs.length c, .slice TA atts.length d] 29)) := (Below.refl _ _).alloc (Nat.le_refl _) _
  have hk0 : Blk (w.alloc (.cells #[.slice SA segs.length c, .slice TA atts.length d] 29)) w.heap.size 29 #[.slice SA segs.length c, .slice TA atts.length d] := Blk.new _ _ _
  have hh0 := hh.alloc (.cells #[.slice SA segs.length c, .slice TA atts.length d] 29)
  generalize w.alloc (.cells #[.slice SA segs.length c, .slice TA atts.length d] 29) = w0 at *
  refine (checkHistory_any _ _ _ _ _ segs atts _ hh0 hz.hc hz.h9 hz.h8 hz.h7 hz.h6).mono ?_
  rintro e w1 ⟨rfl, hb1⟩
  have hh1 := hh0.below hb1
  have hk1 := hk0.below hb1
  have hx1 := hb0.trans (hb1.mono hb0.size)
  clear hb1 hb0 hh0 hk0 hh
  generalize he : histF segs atts = ef at *
  have HE := Lib.hid he
  clear he
  go_wp2_with fail
  go_returns
  exact ⟨by first | (rw [HE.out]; done) | (rw [HE.out]; rfl), hx1⟩
set_option maxHeartbeats 1000000 in
theorem SumOfBest_bad (SA TA : Option Addr) (c d lo : Nat) (segs : List (List UInt8)) (atts : List Att) (w : World) (hh : Hist w lo SA TA segs atts) (hz : HistSz segs atts c) (hf : histF segs atts ≠ 0) :
    Calls Tryz.prog 13 #[.agg #[.slice SA segs.length c, .slice TA atts.length d]] w fun e w' => e = .returned (.tuple #[.int .i64 0, .bool false, .int .i64 (histF segs atts)]) ∧ Below w.heap.size w w' := by
  have d5 : (histF segs atts != 0) = true := by simpa using hf
  clear hf
  go_enter Tryz.func13, Tryz.ntmps13
  go_wp2_with fail
  have hb0 : Below w.heap.size w (w.alloc (.cells #[.slice SA segs.length c, .slice TA atts.length d] 29)) := (Below.refl _ _).alloc (Nat.le_refl _) _
  have hk0 : Blk (w.alloc (.cells #[.slice SA segs.length c, .slice TA atts.length d] 29)) w.heap.size 29 #[.slice SA segs.length c, .slice TA atts.length d] := Blk.new _ _ _
  have hh0 := hh.alloc (.cells #[.slice SA segs.length c, .slice TA atts.length d] 29)
  generalize w.alloc (.cells #[.slice SA segs.length c, .slice TA atts.length d] 29) = w0 at *
  refine (checkHistory_any _ _ _ _ _ segs atts _ hh0 hz.hc hz.h9 hz.h8 hz.h7 hz.h6).mono ?_
  rintro e w1 ⟨rfl, hb1⟩
  have hh1 := hh0.below hb1
  have hk1 := hk0.below hb1
  have hx1 := hb0.trans (hb1.mono hb0.size)
  clear hb1 hb0 hh0 hk0 hh
  generalize he : histF segs atts = ef at *
  have HE := Lib.hid he
  clear he
  go_wp2_with fail
  go_returns
  exact ⟨by first | (rw [HE.out]; done) | (rw [HE.out]; rfl), hx1⟩
set_option maxHeartbeats 1000000 in
theorem Best_bad (SA TA : Option Addr) (c d lo : Nat) (segs : List (List UInt8)) (atts : List Att) (w : World) (hh : Hist w lo SA TA segs atts) (hz : HistSz segs atts c) (hf : histF segs atts ≠ 0) :
    Calls Tryz.prog 14 #[.agg #[.slice SA segs.length c, .slice TA atts.length d]] w fun e w' => e = .returned (.tuple #[.int .i64 0, .int .i64 0, .bool false, .int .i64 (histF segs atts)]) ∧ Below w.heap.size w w' := by
  have d5 : (histF segs atts != 0) = true := by simpa using hf
  clear hf
  go_enter Tryz.func14, Tryz.ntmps14
  go_wp2_with fail
  have hb0 : Below w.heap.size w (w.alloc (.cells #[.slice SA segs.length c, .slice TA atts.length d] 29)) := (Below.refl _ _).alloc (Nat.le_refl _) _
  have hk0 : Blk (w.alloc (.cells #[.slice SA segs.length c, .slice TA atts.length d] 29)) w.heap.size 29 #[.slice SA segs.length c, .slice TA atts.length d] := Blk.new _ _ _
  have hh0 := hh.alloc (.cells #[.slice SA segs.length c, .slice TA atts.length d] 29)
  generalize w.alloc (.cells #[.slice SA segs.length c, .slice TA atts.length d] 29) = w0 at *
  refine (checkHistory_any _ _ _ _ _ segs atts _ hh0 hz.hc hz.h9 hz.h8 hz.h7 hz.h6).mono ?_
  rintro e w1 ⟨rfl, hb1⟩
  have hh1 := hh0.below hb1
  have hk1 := hk0.below hb1
  have hx1 := hb0.trans (hb1.mono hb0.size)
  clear hb1 hb0 hh0 hk0 hh
  generalize he : histF segs atts = ef at *
  have HE := Lib.hid he
  clear he
  go_wp2_with fail
  go_returns
  exact ⟨by first | (rw [HE.out]; done) | (rw [HE.out]; rfl), hx1⟩
set_option maxHeartbeats 1000000 in
theorem Records_bad (SA TA : Option Addr) (c d lo : Nat) (segs : List (List UInt8)) (atts : List Att) (w : World) (hh : Hist w lo SA TA segs atts) (hz : HistSz segs atts c) (hf : histF segs atts ≠ 0) :
    Calls Tryz.prog 15 #[.agg #[.slice SA segs.length c, .slice TA atts.length d]] w fun e w' => e = .returned (.tuple #[.slice none 0 0, .int .i64 (histF segs atts)]) ∧ Below w.heap.size w w' := by
  have d5 : (histF segs atts != 0) = true := by simpa using hf
  clear hf
  go_enter Tryz.func15, Tryz.ntmps15
  go_wp2_with fail
  have hb0 : Below w.heap.size w (w.alloc (.cells #[.slice SA segs.length c, .slice TA atts.length d] 29)) := (Below.refl _ _).alloc (Nat.le_refl _) _
  have hk0 : Blk (w.alloc (.cells #[.slice SA segs.length c, .slice TA atts.length d] 29)) w.heap.size 29 #[.slice SA segs.length c, .slice TA atts.length d] := Blk.new _ _ _
  have hh0 := hh.alloc (.cells #[.slice SA segs.length c, .slice TA atts.length d] 29)
  generalize w.alloc (.cells #[.slice SA segs.length c, .slice TA atts.length d] 29) = w0 at *
  refine (checkHistory_any _ _ _ _ _ segs atts _ hh0 hz.hc hz.h9 hz.h8 hz.h7 hz.h6).mono ?_
  rintro e w1 ⟨rfl, hb1⟩
  have hh1 := hh0.below hb1
  have hk1 := hk0.below hb1
  have hx1 := hb0.trans (hb1.mono hb0.size)
  clear hb1 hb0 hh0 hk0 hh
  generalize he : histF segs atts = ef at *
  have HE := Lib.hid he
  clear he
  go_wp2_with fail
  go_returns
  exact ⟨by first | (rw [HE.out]; done) | (rw [HE.out]; rfl), hx1⟩
set_option maxHeartbeats 1000000 in
theorem Golds_ok (SA TA : Option Addr) (c d lo : Nat) (segs : List (List UInt8)) (atts : List Att) (w : World) (hh : Hist w lo SA TA segs atts) (hc : segs.length ≤ c) (hok : HistOk segs atts) :
    Calls Tryz.prog 12 #[.agg #[.slice SA segs.length c, .slice TA atts.length d]] w fun e w' => ∃ A' c', e = .returned (.tuple #[.slice A' (goldL atts segs.length).length c', .int .i64 0]) ∧ w'.ownsRow w.heap.size 3 1 (.slice A' (goldL atts segs.length).length c') (goldL atts segs.length).length (ints (goldL atts segs.length)) ∧ Below w.heap.size w w' := by
  have HO := Lib.hid hok
  clear hok
  go_enter Tryz.func12, Tryz.ntmps12
  go_wp2_with fail
  have hb0 : Below w.heap.size w (w.alloc (.cells #[.slice SA segs.length c, .slice TA atts.length d] 29)) := (Below.refl _ _).alloc (Nat.le_refl _) _
  have hk0 : Blk (w.alloc (.cells #[.slice SA segs.length c, .slice TA atts.length d] 29)) w.heap.size 29 #[.slice SA segs.length c, .slice TA atts.length d] := Blk.new _ _ _
  have hh0 := hh.alloc (.cells #[.slice SA segs.length c, .slice TA atts.length d] 29)
  generalize w.alloc (.cells #[.slice SA segs.length c, .slice TA atts.length d] 29) = w0 at *
  refine (checkHistory_ok _ _ _ _ _ segs atts _ hh0 hc HO.out).mono ?_
  rintro e w1 ⟨rfl, hb1⟩
  have hh1 := hh0.below hb1
  have hk1 := hk0.below hb1
  have hx1 := hb0.trans (hb1.mono hb0.size)
  clear hb1 hb0 hh0 hk0 hh
  go_wp2_with fail
  refine (golds_any _ _ _ _ _ _ segs atts _ hk1 hh1 HO.out).mono ?_
  rintro e w2 ⟨A', c', rfl, hown, hb2⟩
  go_wp2_with fail
  go_returns
  exact ⟨A', c', rfl, own_weak hown hx1.size, below_up hx1 hb2⟩

/-- The times of an attempt by its number. -/
def timesAt (atts : List Att) (no : Int) : List Int := if atI atts no < 0 then [] else tmL (atts.getD (atI atts no).toNat (0, [])).2 (atts.getD (atI atts no).toNat (0, [])).2.length
def timesE (atts : List Att) (no : Int) : Int := if atI atts no < 0 then 8 else 0
theorem timesAt_none {atts : List Att} {no : Int} (h : atI atts no = -1) : timesAt atts no = [] ∧ timesE atts no = 8 := by simp [timesAt, timesE, h]
theorem timesAt_some {atts : List Att} {no : Int} {k : Nat} (hk : k < atts.length) (h : atI atts no = k) : timesAt atts no = tmL atts[k].2 atts[k].2.length ∧ timesE atts no = 0 := by
  have hn : ¬ (k : Int) < 0 := by omega
  have e : atts.getD k (0, []) = atts[k] := by rw [List.getD_eq_getElem?_getD, List.getElem?_eq_getElem hk]; rfl
  simp only [timesAt, timesE, h, hn, if_false, Int.toNat_natCast, e, and_self]
set_option maxHeartbeats 2000000 in
theorem Times_ok (SA TA : Option Addr) (c d lo : Nat) (no : Int) (segs : List (List UInt8)) (atts : List Att) (w : World) (hh : Hist w lo SA TA segs atts) (hc : segs.length ≤ c) (hok : HistOk segs atts) :
    Calls Tryz.prog 11 #[.agg #[.slice SA segs.length c, .slice TA atts.length d], .int .i64 no] w fun e w' => ∃ A' c', e = .returned (.tuple #[.slice A' (timesAt atts no).length c', .int .i64 (timesE atts no)]) ∧ w'.ownsRow w.heap.size 3 1 (.slice A' (timesAt atts no).length c') (timesAt atts no).length (ints (timesAt atts no)) ∧ Below w.heap.size w w' := by
  have HO := Lib.hid hok
  have n2 := hok.n2
  have hm := hok.m
  clear hok
  go_enter Tryz.func11, Tryz.ntmps11
  go_wp2_with fail
  have hb0 : Below w.heap.size w (w.alloc (.cells #[.slice SA segs.length c, .slice TA atts.length d] 29)) := (Below.refl _ _).alloc (Nat.le_refl _) _
  have hk0 : Blk (w.alloc (.cells #[.slice SA segs.length c, .slice TA atts.length d] 29)) w.heap.size 29 #[.slice SA segs.length c, .slice TA atts.length d] := Blk.new _ _ _
  have hh0 := hh.alloc (.cells #[.slice SA segs.length c, .slice TA atts.length d] 29)
  generalize w.alloc (.cells #[.slice SA segs.length c, .slice TA atts.length d] 29) = w0 at *
  refine (checkHistory_ok _ _ _ _ _ segs atts _ hh0 hc HO.out).mono ?_
  rintro e w1 ⟨rfl, hb1⟩
  have hh1 := hh0.below hb1
  have hk1 := hk0.below hb1
  have hx1 := hb0.trans (hb1.mono hb0.size)
  clear hb1 hb0 hh0 hk0 hh
  obtain ⟨q0, q1⟩ := hk1.two_
  have hzk := hk1.lt
  go_wp2_with fail
  go_loopw [17] (fun i wr => ∃ k : Nat, k ≤ atts.length ∧ i = .int .i64 k ∧ Hid (∀ j (hj : j < atts.length), j < k → atts[j].1 ≠ no) ∧ Below w1.heap.size w1 wr) (fun i _ => atts.length - (intOf i).toNat)
  case atStart => exact ⟨0, Nat.zero_le _, rfl, Lib.hid (fun _ _ h => absurd h (Nat.not_lt_zero _)), Below.refl _ _⟩
  case round =>
    obtain ⟨k, hk, rfl, HA, hbw⟩ := hrel
    have hz := hbw.size
    have hzx := hx1.size
    by_cases hlt : k < atts.length
    · obtain ⟨b, off, B, cB, rfl, hbs, c0, c1', hrB⟩ := (hh1.below hbw).att hlt
      have HSP := Lib.hid (HO.out.spl k hlt)
      have hsl := HSP.out.len
      have hrBa := hrB.alloc (.cells #[.int .i64 atts[k].1, .slice B atts[k].2.length cB] 45)
      by_cases hno : atts[k].1 = no
      · obtain ⟨t1, t2⟩ := timesAt_some hlt (atI_some hlt HA.out hno)
        have T1 := Lib.hid t1
        have T2 := Lib.hid t2
        have d1 : (atts[k].1 == no) = true := by simpa using hno
        have hba : Below w1.heap.size w1 (wr.alloc (.cells #[.int .i64 atts[k].1, .slice B atts[k].2.length cB] 45)) := (by repeat (first | exact hbw | refine Below.alloc ?_ (by first | omega | (simp; omega)) _ | refine below_drewN' ?_ _ | refine Below.drew ?_))
        clear t1 t2 hno
        generalize atts[k].1 = n0 at *
        generalize atts[k].2 = l at *
        go_wp2_with fail
        refine (htimes_any segs.length B _ _ l _ hrBa (by omega) HSP.out).mono ?_
        rintro e w2 ⟨A', c', rfl, hownT, hb2⟩
        have hx2 := below_up (below_up hx1 hba) hb2
        have hbs2 := (below_up hx1 hba).size
        go_wp2_with fail
        go_returns
        exact ⟨A', c', by rw [T1.out, T2.out]; rfl, by rw [T1.out]; exact own_weak hownT hbs2, hx2⟩
      · have HB : Hid (∀ j (hj : j < atts.length), j < k + 1 → atts[j].1 ≠ no) := Lib.hid (fun j hj hjk => by
          rcases Nat.lt_or_ge j k with h | h
          · exact HA.out j hj h
          · have : j = k := by omega
            subst this; exact hno)
        have d1 : (atts[k].1 == no) = false := by simpa using hno
        clear hno
        generalize atts[k].1 = n0 at *
        generalize atts[k].2 = l at *
        go_wp2_with fail
        go_roundw
        case rel => exact ⟨k + 1, by omega, by go_num, HB, (by repeat (first | exact hbw | refine Below.alloc ?_ (by first | omega | (simp; omega)) _ | refine below_drewN' ?_ _ | refine Below.drew ?_))⟩
        case measure => simp [intOf]; omega
    · obtain ⟨t1, t2⟩ := timesAt_none (atI_none (atts := atts) (no := no) (fun j hj => HA.out j hj (by omega)))
      have T1 := Lib.hid t1
      have T2 := Lib.hid t2
      clear t1 t2
      go_wp2_with fail
      go_returns
      exact ⟨none, 0, by rw [T1.out, T2.out]; rfl, by rw [T1.out]; exact World.ownsRow_nil _ _ _ _, below_up hx1 hbw⟩

theorem attemptAt1_any (B : Option Addr) (k cc g : Nat) (n no : Int) (w : World) (hg : Blk w g 3 #[.int .i64 no]) :
    Calls Tryz.prog 66 #[.agg #[.int .i64 n, .slice B k cc], .pointer (some ⟨g, 0, none⟩)] w fun e w' => e = .returned (.bool (n == no)) ∧ Below w.heap.size w w' := by
  have c0 : w.cell? ⟨g, 0, none⟩ = some (.int .i64 no) := by simpa using hg.cell 0
  have zg := hg.lt
  go_enter Tryz.func66, Tryz.ntmps66
  go_wp2_with fail
  go_ret
  exact ⟨rfl, (Below.refl _ _).alloc (Nat.le_refl _) _⟩
set_option maxHeartbeats 1000000 in
theorem indexFuncA_any (TA : Option Addr) (d g lo : Nat) (SA : Option Addr) (segs : List (List UInt8)) (atts : List Att) (no : Int) (w : World) (hh : Hist w lo SA TA segs atts) (hg : Blk w g 3 #[.int .i64 no]) (hm : atts.length ≤ 1000000000) :
    Calls Tryz.prog 65 #[.slice TA atts.length d, .func (.func 66) #[] #[.pointer (some ⟨g, 0, none⟩)]] w fun e w' => e = .returned (.int .i64 (atI atts no)) ∧ Below w.heap.size w w' := by
  go_enter Tryz.func65, Tryz.ntmps65
  go_wp2_with fail
  go_loopw [8] (fun i wr => ∃ k : Nat, k ≤ atts.length ∧ i = .int .i64 k ∧ Hid (∀ j (hj : j < atts.length), j < k → atts[j].1 ≠ no) ∧ Below w.heap.size w wr) (fun i _ => atts.length - (intOf i).toNat)
  case atStart => exact ⟨0, Nat.zero_le _, rfl, Lib.hid (fun _ _ h => absurd h (Nat.not_lt_zero _)), Below.refl _ _⟩
  case round =>
    obtain ⟨k, hk, rfl, HA, hbw⟩ := hrel
    by_cases hlt : k < atts.length
    · obtain ⟨b, off, B, cB, rfl, hbs, c0, c1', hrB⟩ := (hh.below hbw).att hlt
      have hgw := hg.below hbw
      by_cases hno : atts[k].1 = no
      · have HE := Lib.hid (atI_some hlt HA.out hno)
        have d1 : (atts[k].1 == no) = true := by simpa using hno
        clear hno
        generalize atts[k].1 = n0 at *
        generalize atts[k].2.length = ll at *
        go_wp2_with fail
        refine (attemptAt1_any _ _ _ _ _ _ _ hgw).mono ?_
        rintro e w2 ⟨rfl, hb2⟩
        rw [d1]
        go_wp2_with fail
        go_ret
        exact ⟨ret_int' HE.out.symm, below_up hbw hb2⟩
      · have HB : Hid (∀ j (hj : j < atts.length), j < k + 1 → atts[j].1 ≠ no) := Lib.hid (fun j hj hjk => by
          rcases Nat.lt_or_ge j k with h | h
          · exact HA.out j hj h
          · have : j = k := by omega
            subst this; exact hno)
        have d1 : (atts[k].1 == no) = false := by simpa using hno
        clear hno
        generalize atts[k].1 = n0 at *
        generalize atts[k].2.length = ll at *
        go_wp2_with fail
        refine (attemptAt1_any _ _ _ _ _ _ _ hgw).mono ?_
        rintro e w2 ⟨rfl, hb2⟩
        rw [d1]
        have hb9 := below_up hbw hb2
        clear hb2
        go_wp2_with fail
        go_roundw
        case rel => exact ⟨k + 1, by omega, by go_num, HB, hb9⟩
        case measure => simp [intOf]; omega
    · have HE := Lib.hid (atI_none (atts := atts) (no := no) (fun j hj => HA.out j hj (by omega)))
      go_wp2_with fail
      go_ret
      exact ⟨ret_int' HE.out.symm, hbw⟩
theorem attemptAt_any (SA TA : Option Addr) (c d lo : Nat) (no : Int) (segs : List (List UInt8)) (atts : List Att) (w : World) (hh : Hist w lo SA TA segs atts) (hm : atts.length ≤ 1000000000) :
    Calls Tryz.prog 17 #[.agg #[.slice SA segs.length c, .slice TA atts.length d], .int .i64 no] w fun e w' => e = .returned (.int .i64 (atI atts no)) ∧ Below w.heap.size w w' := by
  go_enter Tryz.func17, Tryz.ntmps17
  go_wp2_with fail
  have hh2 := (hh.alloc (.cells #[.slice SA segs.length c, .slice TA atts.length d] 29)).alloc (.cells #[.int .i64 no] 3)
  have hb2 : Below w.heap.size w ((w.alloc (.cells #[.slice SA segs.length c, .slice TA atts.length d] 29)).alloc (.cells #[.int .i64 no] 3)) := ((Below.refl _ _).alloc (Nat.le_refl _) _).alloc (by simp) _
  have hg2 : Blk ((w.alloc (.cells #[.slice SA segs.length c, .slice TA atts.length d] 29)).alloc (.cells #[.int .i64 no] 3)) (w.heap.size + 1) 3 #[.int .i64 no] := by
    have := Blk.new (w.alloc (.cells #[.slice SA segs.length c, .slice TA atts.length d] 29)) 3 #[.int .i64 no]
    simpa using this
  refine (indexFuncA_any _ _ _ _ SA segs atts no _ hh2 hg2 hm).mono ?_
  rintro e w2 ⟨rfl, hb3⟩
  go_wp2_with fail
  go_ret
  exact ⟨rfl, below_up hb2 hb3⟩
end Go.Proofs.YtagghmfhfboejaaGreatDoor
/- The walks of segment.Records and splitref1.RecordsOf at a right history. -/
namespace Go.Proofs.YtagghmfhfboejaaGreatDoor
set_option linter.unusedVariables false
set_option linter.unusedSimpArgs false
open Go.RowKit

/-- The least time so far, as the reference has it. -/
def recB (n : Nat) (atts : List Att) (k : Nat) : Int := if (recK n atts k).1 = 0 then 864000001 else (recK n atts k).1
theorem lastT_at {n : Nat} {atts : List Att} {k : Nat} (hk : k < atts.length) (h : atts[k].2.length = n) {l : Nat} (hl : l + 1 = n) : lastT atts[k] = atts[k].2[l]'(by omega) := by
  unfold lastT
  have : atts[k].2.length - 1 = l := by omega
  rw [this, getD_is (by omega)]
theorem recK_new {n : Nat} {atts : List Att} {k : Nat} (hk : k < atts.length) (h : atts[k].2.length = n) {l : Nat} (hl : l + 1 = n) (hc : (recK n atts k).1 = 0 ∨ atts[k].2[l]'(by omega) < (recK n atts k).1) : recK n atts (k + 1) = (atts[k].2[l]'(by omega), (recK n atts k).2 ++ [atts[k].1]) := by
  have e := lastT_at hk h hl
  simp only [recK, hk, dite_true]
  rw [e, if_pos ⟨h, hc⟩]
theorem recK_old {n : Nat} {atts : List Att} {k : Nat} (hk : k < atts.length) (h : atts[k].2.length = n) {l : Nat} (hl : l + 1 = n) (hc : ¬ ((recK n atts k).1 = 0 ∨ atts[k].2[l]'(by omega) < (recK n atts k).1)) : (recK n atts (k + 1)).1 = (recK n atts k).1 ∧ (recK n atts (k + 1)).2 = (recK n atts k).2 := by
  have e := lastT_at hk h hl
  simp only [recK, hk, dite_true]
  rw [e, if_neg (fun x => hc x.2)]
  exact ⟨rfl, rfl⟩
set_option maxHeartbeats 2000000 in
theorem Records_ok (SA TA : Option Addr) (c d lo : Nat) (segs : List (List UInt8)) (atts : List Att) (w : World) (hh : Hist w lo SA TA segs atts) (hc : segs.length ≤ c) (hok : HistOk segs atts) :
    Calls Tryz.prog 15 #[.agg #[.slice SA segs.length c, .slice TA atts.length d]] w fun e w' => ∃ A' c', e = .returned (.tuple #[.slice A' (recK segs.length atts atts.length).2.length c', .int .i64 0]) ∧ w'.ownsRow w.heap.size 3 1 (.slice A' (recK segs.length atts atts.length).2.length c') (recK segs.length atts atts.length).2.length (ints (recK segs.length atts atts.length).2) ∧ Below w.heap.size w w' := by
  have HO := Lib.hid hok
  have n1 := hok.n1
  have n2 := hok.n2
  have hm := hok.m
  have HBD := Lib.hid (recK_bd hok)
  clear hok
  go_enter Tryz.func15, Tryz.ntmps15
  go_wp2_with fail
  have hb0 : Below w.heap.size w (w.alloc (.cells #[.slice SA segs.length c, .slice TA atts.length d] 29)) := (Below.refl _ _).alloc (Nat.le_refl _) _
  have hk0 : Blk (w.alloc (.cells #[.slice SA segs.length c, .slice TA atts.length d] 29)) w.heap.size 29 #[.slice SA segs.length c, .slice TA atts.length d] := Blk.new _ _ _
  have hh0 := hh.alloc (.cells #[.slice SA segs.length c, .slice TA atts.length d] 29)
  generalize w.alloc (.cells #[.slice SA segs.length c, .slice TA atts.length d] 29) = w0 at *
  refine (checkHistory_ok _ _ _ _ _ segs atts _ hh0 hc HO.out).mono ?_
  rintro e W ⟨rfl, hb1⟩
  have hh1 := hh0.below hb1
  have hk1 := hk0.below hb1
  have hx1 := hb0.trans (hb1.mono hb0.size)
  clear hb1 hb0 hh0 hk0 hh
  obtain ⟨q0, q1⟩ := hk1.two_
  have hzk := hk1.lt
  have hzx := hx1.size
  obtain ⟨l, hl⟩ : ∃ l, l + 1 = segs.length := ⟨segs.length - 1, by omega⟩
  have wl : IntKind.i64.wrap ((segs.length : Int) - 1) = (l : Int) := by rw [IntWalk.i64_in _ ⟨by omega, by omega⟩]; omega
  go_wp2_with fail
  go_loopw [5, 6, 18] (fun v o i wr => ∃ (k : Nat) (A' : Option Addr) (c' : Nat), k ≤ atts.length ∧ i = .int .i64 k ∧ v = .slice A' (recK segs.length atts k).2.length c' ∧ o = .int .i64 (recK segs.length atts k).1 ∧ wr.ownsRow W.heap.size 3 1 (.slice A' (recK segs.length atts k).2.length c') (recK segs.length atts k).2.length (ints (recK segs.length atts k).2) ∧ Below W.heap.size W wr) (fun _ _ i _ => atts.length - (intOf i).toNat)
  case atStart => exact ⟨0, none, 0, Nat.zero_le _, rfl, rfl, rfl, World.ownsRow_nil _ _ _ _, Below.refl _ _⟩
  case round =>
    obtain ⟨k, A', c', hk, rfl, rfl, rfl, hown, hbw⟩ := hrel
    have hz := hbw.size
    clear q0 q1
    by_cases hlt : k < atts.length
    · have hkw := hk1.below hbw
      obtain ⟨b, off, B, cB, rfl, hbs, c0, c1', hrB⟩ := (hh1.below hbw).att hlt
      obtain ⟨q0, q1⟩ := hkw.two_
      have hzw := hkw.lt
      have bd := HBD.out k hk
      have HNO := Lib.hid (recK_no (n := segs.length) hlt)
      have HNW := Lib.hid (fun h hc => recK_new (n := segs.length) hlt h hl hc)
      have HOL := Lib.hid (fun h hc => recK_old (n := segs.length) hlt h hl hc)
      by_cases hn : atts[k].2.length = segs.length
      · have hl1 : l < atts[k].2.length := by omega
        have HNW1 := Lib.hid (HNW.out hn)
        have HOL1 := Lib.hid (HOL.out hn)
        clear HNW HOL HNO
        obtain ⟨bB, oB, rfl, _, hbB, x0⟩ := hrB.int_at hl1
        rw [hn] at c1'
        generalize atts[k].2[l] = x at *
        generalize atts[k].1 = no at *
        clear hrB hn
        have hkA : Blk (wr.alloc (.cells #[.int .i64 no, .slice (some ⟨bB, oB, none⟩) segs.length cB] 45)) wr.heap.size 45 #[.int .i64 no, .slice (some ⟨bB, oB, none⟩) segs.length cB] := Blk.new _ _ _
        have hba : Below W.heap.size W (wr.alloc (.cells #[.int .i64 no, .slice (some ⟨bB, oB, none⟩) segs.length cB] 45)) := (by repeat (first | exact hbw | refine Below.alloc ?_ (by first | omega | (simp; omega)) _ | refine below_drewN' ?_ _ | refine Below.drew ?_))
        have hkwa := hkw.alloc (.cells #[.int .i64 no, .slice (some ⟨bB, oB, none⟩) segs.length cB] 45)
        have hownA := hown.alloc (.cells #[.int .i64 no, .slice (some ⟨bB, oB, none⟩) segs.length cB] 45)
        have xA := cell_al x0 (.cells #[.int .i64 no, .slice (some ⟨bB, oB, none⟩) segs.length cB] 45)
        go_wp2_with fail
        refine (finished_any _ _ _ _ _ _ _ _ 0 _ _ _ _ hkwa).mono ?_
        rintro e w2 ⟨rfl, hb2⟩
        rw [show decide (segs.length = segs.length) = true by simp]
        have x2 := cell_below xA hb2
        obtain ⟨a0, a1⟩ := (hkA.below hb2).two_
        have hza := (hkA.below hb2).lt
        have hown2 := own_keep hownA hb2
        have hx2 := below_up hba hb2
        have hlk : (recK segs.length atts k).2.length ≤ 1000 := by omega
        have hz2 := hx2.size
        clear hb2 hba hownA hown hbw hkwa hkA c1' xA x0
        generalize (recK segs.length atts k).2 = o at *
        generalize (recK segs.length atts k).1 = r at *
        have hln : l < segs.length := by omega
        by_cases hr : r = 0
        · have HE := Lib.hid (HNW1.out (.inl hr))
          have d1 : (r == 0) = true := by simpa using hr
          clear hr HNW1 HOL1
          go_wp2_with (at_builtin; go_must (refine wpList_app (lo := W.heap.size) (base := W.heap.size) (n := o.length) (xs := ints o) _ _ rfl _ _ ty_ints rfl (by repeat (first | exact hown2 | refine World.ownsRow.alloc ?_ _ | refine own_drewN ?_ _ | refine World.ownsRow.drew ?_)) rfl (by first | exact row_new' _ (by first | rfl | simp) (by first | omega | (simp; omega)) rfl | exact row_newN _ _ (by first | rfl | simp) (by first | omega | (simp; omega)) rfl | exact row_newD _ (by first | rfl | simp) (by first | omega | (simp; omega)) rfl) rfl rfl (by first | omega | decide) (by first | omega | decide) (by first | omega | (simp; omega)) ?_))
          intro A5 c5 w5 hown5 hg5 _
          go_wp2_with fail
          go_roundw
          case rel => exact ⟨k + 1, A5, c5, by omega, by go_num, by rw [HE.out]; simp, by rw [HE.out], by rw [HE.out, ints_app, List.length_append]; exact hown5, below_app hown2 (by repeat (first | exact hx2 | refine Below.alloc ?_ (by first | omega | (simp; omega)) _ | refine below_drewN' ?_ _ | refine Below.drew ?_)) hg5 (Nat.le_refl _) (by simp; omega)⟩
          case measure => simp [intOf]; omega
        · have d1 : (r == 0) = false := by simpa using hr
          by_cases hx : x < r
          · have HE := Lib.hid (HNW1.out (.inr hx))
            have d2 : decide (x < r) = true := by simpa using hx
            clear hr hx HNW1 HOL1
            go_wp2_with (at_builtin; go_must (refine wpList_app (lo := W.heap.size) (base := W.heap.size) (n := o.length) (xs := ints o) _ _ rfl _ _ ty_ints rfl (by repeat (first | exact hown2 | refine World.ownsRow.alloc ?_ _ | refine own_drewN ?_ _ | refine World.ownsRow.drew ?_)) rfl (by first | exact row_new' _ (by first | rfl | simp) (by first | omega | (simp; omega)) rfl | exact row_newN _ _ (by first | rfl | simp) (by first | omega | (simp; omega)) rfl | exact row_newD _ (by first | rfl | simp) (by first | omega | (simp; omega)) rfl) rfl rfl (by first | omega | decide) (by first | omega | decide) (by first | omega | (simp; omega)) ?_))
            intro A5 c5 w5 hown5 hg5 _
            go_wp2_with fail
            go_roundw
            case rel => exact ⟨k + 1, A5, c5, by omega, by go_num, by rw [HE.out]; simp, by rw [HE.out], by rw [HE.out, ints_app, List.length_append]; exact hown5, below_app hown2 (by repeat (first | exact hx2 | refine Below.alloc ?_ (by first | omega | (simp; omega)) _ | refine below_drewN' ?_ _ | refine Below.drew ?_)) hg5 (Nat.le_refl _) (by simp; omega)⟩
            case measure => simp [intOf]; omega
          · have HE := Lib.hid (HOL1.out (fun h => h.elim hr hx))
            have d2 : decide (x < r) = false := by simpa using hx
            clear hr hx HNW1 HOL1
            go_wp2_with fail
            go_roundw
            case rel => exact ⟨k + 1, A', c', by omega, by go_num, by rw [HE.out.2], by rw [HE.out.1], by rw [HE.out.2]; exact hown2, hx2⟩
            case measure => simp [intOf]; omega
      · have HE := Lib.hid (HNO.out hn)
        clear HNW HOL HNO
        have HQ : Hid (decide (atts[k].2.length = segs.length) = false) := Lib.hid (by simpa using hn)
        clear hrB hn
        generalize atts[k].2.length = len at *
        generalize atts[k].1 = no at *
        have hba : Below W.heap.size W (wr.alloc (.cells #[.int .i64 no, .slice B len cB] 45)) := (by repeat (first | exact hbw | refine Below.alloc ?_ (by first | omega | (simp; omega)) _ | refine below_drewN' ?_ _ | refine Below.drew ?_))
        have hkwa := hkw.alloc (.cells #[.int .i64 no, .slice B len cB] 45)
        have hownA := hown.alloc (.cells #[.int .i64 no, .slice B len cB] 45)
        go_wp2_with fail
        refine (finished_any _ _ _ _ _ _ _ _ 0 _ _ _ _ hkwa).mono ?_
        rintro e w2 ⟨rfl, hb2⟩
        rw [HQ.out]
        have hown2 := own_keep hownA hb2
        have hx2 := below_up hba hb2
        clear hb2 hba hownA hown hbw hkwa c1'
        go_wp2_with fail
        go_roundw
        case rel => exact ⟨k + 1, A', c', by omega, by go_num, by rw [HE.out], by rw [HE.out], by rw [HE.out]; exact hown2, hx2⟩
        case measure => simp [intOf]; omega
    · have hkn : k = atts.length := by omega
      subst hkn
      go_wp2_with fail
      go_returns
      exact ⟨A', c', rfl, own_weak hown hzx, below_up hx1 hbw⟩
end Go.Proofs.YtagghmfhfboejaaGreatDoor
/- The walk of splitref1.RecordsOf at a right history. -/
namespace Go.Proofs.YtagghmfhfboejaaGreatDoor
set_option linter.unusedVariables false
set_option linter.unusedSimpArgs false
open Go.RowKit

theorem recB_new {segs : List (List UInt8)} {atts : List Att} (hok : HistOk segs atts) {k : Nat} (hk : k < atts.length) (h : atts[k].2.length = segs.length) {l : Nat} (hl : l + 1 = segs.length) (hc : atts[k].2[l]'(by omega) < recB segs.length atts k) :
    recB segs.length atts (k + 1) = atts[k].2[l]'(by omega) ∧ (recK segs.length atts (k + 1)).2 = (recK segs.length atts k).2 ++ [atts[k].1] := by
  have bd := last_bd hok hk h
  have e := lastT_at hk h hl
  rw [e] at bd
  have hc' : (recK segs.length atts k).1 = 0 ∨ atts[k].2[l]'(by omega) < (recK segs.length atts k).1 := by
    unfold recB at hc
    split at hc
    · left; assumption
    · right; exact hc
  have e2 := recK_new hk h hl hc'
  refine ⟨?_, by rw [e2]⟩
  unfold recB
  rw [e2, if_neg (by simp only []; omega)]
theorem recB_old {segs : List (List UInt8)} {atts : List Att} (hok : HistOk segs atts) {k : Nat} (hk : k < atts.length) (h : atts[k].2.length = segs.length) {l : Nat} (hl : l + 1 = segs.length) (hc : ¬ atts[k].2[l]'(by omega) < recB segs.length atts k) :
    recB segs.length atts (k + 1) = recB segs.length atts k ∧ (recK segs.length atts (k + 1)).2 = (recK segs.length atts k).2 := by
  have bd := last_bd hok hk h
  have e := lastT_at hk h hl
  rw [e] at bd
  have hc' : ¬ ((recK segs.length atts k).1 = 0 ∨ atts[k].2[l]'(by omega) < (recK segs.length atts k).1) := by
    unfold recB at hc
    split at hc
    · omega
    · rename_i h0
      rintro (h1 | h1)
      · exact h0 h1
      · exact hc h1
  have e2 := recK_old hk h hl hc'
  refine ⟨?_, e2.2⟩
  unfold recB
  rw [e2.1]
theorem recB_no {n : Nat} {atts : List Att} {k : Nat} (hk : k < atts.length) (h : ¬ atts[k].2.length = n) : recB n atts (k + 1) = recB n atts k ∧ (recK n atts (k + 1)).2 = (recK n atts k).2 := by
  unfold recB
  rw [recK_no hk h]
  exact ⟨rfl, rfl⟩
set_option maxHeartbeats 2000000 in
theorem recordsOf_ok (SA TA : Option Addr) (c d lo : Nat) (segs : List (List UInt8)) (atts : List Att) (w : World) (hh : Hist w lo SA TA segs atts) (hok : HistOk segs atts) :
    Calls Tryz.prog 24 #[.agg #[.slice SA segs.length c, .slice TA atts.length d]] w fun e w' => ∃ A' c', e = .returned (.slice A' (recK segs.length atts atts.length).2.length c') ∧ w'.ownsRow w.heap.size 3 1 (.slice A' (recK segs.length atts atts.length).2.length c') (recK segs.length atts atts.length).2.length (ints (recK segs.length atts atts.length).2) ∧ Below w.heap.size w w' := by
  have HO := Lib.hid hok
  have n1 := hok.n1
  have n2 := hok.n2
  have hm := hok.m
  have HBD := Lib.hid (recK_bd hok)
  clear hok
  go_enter Tryz.func24, Tryz.ntmps24
  go_wp2_with fail
  have hx1 : Below w.heap.size w (w.alloc (.cells #[.slice SA segs.length c, .slice TA atts.length d] 29)) := (Below.refl _ _).alloc (Nat.le_refl _) _
  have hk1 : Blk (w.alloc (.cells #[.slice SA segs.length c, .slice TA atts.length d] 29)) w.heap.size 29 #[.slice SA segs.length c, .slice TA atts.length d] := Blk.new _ _ _
  have hh1 := hh.alloc (.cells #[.slice SA segs.length c, .slice TA atts.length d] 29)
  generalize w.alloc (.cells #[.slice SA segs.length c, .slice TA atts.length d] 29) = W at *
  clear hh
  have hzk := hk1.lt
  have hzx := hx1.size
  obtain ⟨l, hl⟩ : ∃ l, l + 1 = segs.length := ⟨segs.length - 1, by omega⟩
  have wl : IntKind.i64.wrap ((segs.length : Int) - 1) = (l : Int) := by rw [IntWalk.i64_in _ ⟨by omega, by omega⟩]; omega
  go_loopw [3, 4, 10] (fun v o i wr => ∃ (k : Nat) (A' : Option Addr) (c' : Nat), k ≤ atts.length ∧ i = .int .i64 k ∧ v = .slice A' (recK segs.length atts k).2.length c' ∧ o = .int .i64 (recB segs.length atts k) ∧ wr.ownsRow W.heap.size 3 1 (.slice A' (recK segs.length atts k).2.length c') (recK segs.length atts k).2.length (ints (recK segs.length atts k).2) ∧ Below W.heap.size W wr) (fun _ _ i _ => atts.length - (intOf i).toNat)
  case atStart => exact ⟨0, none, 0, Nat.zero_le _, rfl, rfl, rfl, World.ownsRow_nil _ _ _ _, Below.refl _ _⟩
  case round =>
    obtain ⟨k, A', c', hk, rfl, rfl, rfl, hown, hbw⟩ := hrel
    have hz := hbw.size
    by_cases hlt : k < atts.length
    · have hkw := hk1.below hbw
      obtain ⟨b, off, B, cB, rfl, hbs, c0, c1', hrB⟩ := (hh1.below hbw).att hlt
      obtain ⟨q0, q1⟩ := hkw.two_
      have hzw := hkw.lt
      have bd := HBD.out k hk
      have HNO := Lib.hid (recB_no (n := segs.length) hlt)
      have HNW := Lib.hid (fun h hc => recB_new HO.out hlt h hl hc)
      have HOL := Lib.hid (fun h hc => recB_old HO.out hlt h hl hc)
      by_cases hn : atts[k].2.length = segs.length
      · have hl1 : l < atts[k].2.length := by omega
        have HNW1 := Lib.hid (HNW.out hn)
        have HOL1 := Lib.hid (HOL.out hn)
        clear HNW HOL HNO
        obtain ⟨bB, oB, rfl, _, hbB, x0⟩ := hrB.int_at hl1
        rw [hn] at c1'
        generalize atts[k].2[l] = x at *
        generalize atts[k].1 = no at *
        clear hrB hn
        have hkA : Blk (wr.alloc (.cells #[.int .i64 no, .slice (some ⟨bB, oB, none⟩) segs.length cB] 45)) wr.heap.size 45 #[.int .i64 no, .slice (some ⟨bB, oB, none⟩) segs.length cB] := Blk.new _ _ _
        have hba : Below W.heap.size W (wr.alloc (.cells #[.int .i64 no, .slice (some ⟨bB, oB, none⟩) segs.length cB] 45)) := (by repeat (first | exact hbw | refine Below.alloc ?_ (by first | omega | (simp; omega)) _ | refine below_drewN' ?_ _ | refine Below.drew ?_))
        have hownA := hown.alloc (.cells #[.int .i64 no, .slice (some ⟨bB, oB, none⟩) segs.length cB] 45)
        have xA := cell_al x0 (.cells #[.int .i64 no, .slice (some ⟨bB, oB, none⟩) segs.length cB] 45)
        go_wp2_with fail
        refine (rfinished_any _ _ _ _ _ _ _ _ _ _ _).mono ?_
        rintro e w2 ⟨rfl, hb2⟩
        rw [show decide (segs.length = segs.length) = true by simp]
        have x2 := cell_below xA hb2
        obtain ⟨a0, a1⟩ := (hkA.below hb2).two_
        have hza := (hkA.below hb2).lt
        have hown2 := own_keep hownA hb2
        have hx2 := below_up hba hb2
        have hlk : (recK segs.length atts k).2.length ≤ 1000 := by omega
        have hz2 := hx2.size
        clear hb2 hba hownA hown hbw hkA c1' xA x0
        generalize (recK segs.length atts k).2 = o at *
        generalize recB segs.length atts k = r at *
        have hln : l < segs.length := by omega
        by_cases hx : x < r
        · have HE := Lib.hid (HNW1.out hx)
          have d2 : decide (x < r) = true := by simpa using hx
          clear hx HNW1 HOL1
          go_wp2_with (at_builtin; go_must (refine wpList_app (lo := W.heap.size) (base := W.heap.size) (n := o.length) (xs := ints o) _ _ rfl _ _ ty_ints rfl (by repeat (first | exact hown2 | refine World.ownsRow.alloc ?_ _ | refine own_drewN ?_ _ | refine World.ownsRow.drew ?_)) rfl (by first | exact row_new' _ (by first | rfl | simp) (by first | omega | (simp; omega)) rfl | exact row_newN _ _ (by first | rfl | simp) (by first | omega | (simp; omega)) rfl | exact row_newD _ (by first | rfl | simp) (by first | omega | (simp; omega)) rfl) rfl rfl (by first | omega | decide) (by first | omega | decide) (by first | omega | (simp; omega)) ?_))
          intro A5 c5 w5 hown5 hg5 _
          go_wp2_with fail
          go_roundw
          case rel => exact ⟨k + 1, A5, c5, by omega, by go_num, by rw [HE.out.2]; simp, by rw [HE.out.1], by rw [HE.out.2, ints_app, List.length_append]; exact hown5, below_app hown2 (by repeat (first | exact hx2 | refine Below.alloc ?_ (by first | omega | (simp; omega)) _ | refine below_drewN' ?_ _ | refine Below.drew ?_)) hg5 (Nat.le_refl _) (by simp; omega)⟩
          case measure => simp [intOf]; omega
        · have HE := Lib.hid (HOL1.out (by first | exact hx | omega))
          have d2 : decide (x < r) = false := by simpa using hx
          clear hx HNW1 HOL1
          go_wp2_with fail
          go_roundw
          case rel => exact ⟨k + 1, A', c', by omega, by go_num, by rw [HE.out.2], by rw [HE.out.1], by rw [HE.out.2]; exact hown2, hx2⟩
          case measure => simp [intOf]; omega
      · have HE := Lib.hid (HNO.out hn)
        clear HNW HOL HNO
        have HQ : Hid (decide (atts[k].2.length = segs.length) = false) := Lib.hid (by simpa using hn)
        clear hrB hn
        generalize atts[k].2.length = len at *
        generalize atts[k].1 = no at *
        have hba : Below W.heap.size W (wr.alloc (.cells #[.int .i64 no, .slice B len cB] 45)) := (by repeat (first | exact hbw | refine Below.alloc ?_ (by first | omega | (simp; omega)) _ | refine below_drewN' ?_ _ | refine Below.drew ?_))
        have hownA := hown.alloc (.cells #[.int .i64 no, .slice B len cB] 45)
        go_wp2_with fail
        refine (rfinished_any _ _ _ _ _ _ _ _ _ _ _).mono ?_
        rintro e w2 ⟨rfl, hb2⟩
        rw [HQ.out]
        have hown2 := own_keep hownA hb2
        have hx2 := below_up hba hb2
        clear hb2 hba hownA hown hbw c1'
        go_wp2_with fail
        go_roundw
        case rel => exact ⟨k + 1, A', c', by omega, by go_num, by rw [HE.out.2], by rw [HE.out.1], by rw [HE.out.2]; exact hown2, hx2⟩
        case measure => simp [intOf]; omega
    · have hkn : k = atts.length := by omega
      subst hkn
      go_wp2_with fail
      go_ret
      exact ⟨A', c', rfl, own_weak hown hzx, below_up hx1 hbw⟩
end Go.Proofs.YtagghmfhfboejaaGreatDoor
/- The walk of the stream's function that draws a history that is right. -/
namespace Go.Proofs.YtagghmfhfboejaaGreatDoor
set_option linter.unusedVariables false
set_option linter.unusedSimpArgs false
open Go.RowKit Go.Sort

def RightHPost (w : World) (g N : Nat) (e : Ending) (w' : World) : Prop :=
  ∃ (SA TA : Option Addr) (c d : Nat) (segs : List (List UInt8)) (atts : List Att), e = .returned (.agg #[.slice SA segs.length c, .slice TA atts.length d]) ∧ Hist w' w.heap.size SA TA segs atts ∧ segs.length ≤ c ∧ segs.length ≤ 4 ∧ atts.length ≤ 7 ∧ (∀ i (h : i < atts.length), atts[i].2.length ≤ 4) ∧ HistOk segs atts ∧ Str w' g N ∧ w.grownBy w' (some g)
theorem Hist.two {w : World} {lo r : Nat} {SA TA : Option Addr} {segs : List (List UInt8)} {atts : List Att} {t : TypeId} {cs : Array Value} (h : Hist w lo SA TA segs atts) (hr : Blk w r t cs) (hlo : r < lo) (u v : Value) : Hist ((w.setCell ⟨r, 0, none⟩ u).setCell ⟨r, 1, none⟩ v) lo SA TA segs atts :=
  h.stream (g := r) (grown_set (grown_set (World.grownBy.refl w _) 0 u) 1 v) hlo
theorem aa_ok : HistOk [[97, 97]] [] := ⟨by decide, by decide, by decide, by decide, by decide, fun i h => by simp at h, fun i h => by simp at h, fun i h => by simp at h⟩
set_option maxHeartbeats 4000000 in
theorem rightHistory_any (g N : Nat) (w : World) (hs : Str w g N) (hN : N < 4611686018425000000) :
    Calls Tryz.prog 44 #[.pointer (some ⟨g, 0, none⟩)] w (RightHPost w g (N + 3000)) := by
  have hlt := hs.lt
  go_enter Tryz.func44, Tryz.ntmps44
  go_wp2_with fail
  have hs0 := hs.alloc (.cells #[.slice none 0 0, .slice none 0 0] 29)
  have hres : Blk (w.alloc (.cells #[.slice none 0 0, .slice none 0 0] 29)) w.heap.size 29 #[.slice none 0 0, .slice none 0 0] := Blk.new _ _ _
  have hgr0 : w.grownBy (w.alloc (.cells #[.slice none 0 0, .slice none 0 0] 29)) (some g) := World.grownBy_alloc _ _ _
  generalize w.alloc (.cells #[.slice none 0 0, .slice none 0 0] 29) = w0 at *
  go_loopw [4] (fun i wr => ∃ k : Nat, k ≤ 8 ∧ i = .int .i64 k ∧ Blk wr w.heap.size 29 #[.slice none 0 0, .slice none 0 0] ∧ Str wr g (N + 320 * k) ∧ w.grownBy wr (some g)) (fun i _ => 8 - (intOf i).toNat)
  case atStart => exact ⟨0, by omega, rfl, hres, hs0, hgr0⟩
  case round =>
    clear hres hs0 hgr0
    obtain ⟨k, hk, rfl, hres, hsr, hgr⟩ := hrel
    have hzr := hres.lt
    by_cases hk8 : k < 8
    · have d8 : decide ((k : Int) < 8) = true := by simp; omega
      go_wp2_with fail
      refine (history_any g _ _ hsr (by omega)).mono ?_
      rintro e w1 ⟨SA, TA, c, d, segs, atts, rfl, hh, hc, n1, n4, hm, hl, hsl, hs1, hg1⟩
      have hz9 : HistSz segs atts c := ⟨hc, by omega, by omega, fun i h => by have := hl i h; omega, fun s hs => by have := hsl s hs; omega⟩
      have hres1 := hres.stream hg1 hlt
      have hgr1 := grown_trans' hgr hg1
      have HL := Lib.hid hl
      clear hl hsl hres hsr hg1
      go_wp2_with fail
      have hh1 := hh.alloc (.cells #[.slice SA segs.length c, .slice TA atts.length d] 29)
      have hk1 : Blk (w1.alloc (.cells #[.slice SA segs.length c, .slice TA atts.length d] 29)) w1.heap.size 29 #[.slice SA segs.length c, .slice TA atts.length d] := Blk.new _ _ _
      have hres1 := hres1.alloc (.cells #[.slice SA segs.length c, .slice TA atts.length d] 29)
      have hs1 := hs1.alloc (.cells #[.slice SA segs.length c, .slice TA atts.length d] 29)
      have hgr1 := grown_alloc hgr1 (.cells #[.slice SA segs.length c, .slice TA atts.length d] 29)
      generalize w1.alloc (.cells #[.slice SA segs.length c, .slice TA atts.length d] 29) = w2 at *
      generalize w1.heap.size = bx at *
      refine (historyFault_any _ _ _ _ _ segs atts _ hh1 hz9.hc hz9.h9 hz9.h8 hz9.h7 hz9.h6).mono ?_
      rintro e w3 ⟨rfl, hb3⟩
      have hh3 := hh1.below hb3
      have hk3 := hk1.below hb3
      have hres3 := hres1.below hb3
      have hs3 := hs1.keep hb3
      have hgr3 := grown_trans' hgr1 (grown_of_below hb3 _)
      clear hh hh1 hk1 hres1 hs1 hgr1 hb3
      by_cases hf : histF segs atts = 0
      · have HO := Lib.hid (histF_ok hf)
        rw [hf]
        clear hf
        obtain ⟨q0, q1⟩ := hk3.two_
        have qz := hk3.lt
        obtain ⟨r0, r1⟩ := hres3.two_
        have rz := hres3.lt
        have rf0 := hres3.thaw 0
        have rf1 := hres3.thaw 1
        obtain ⟨z0, z1, z2⟩ := hres3.two2 (.slice SA segs.length c) (.slice TA atts.length d)
        have hgs := grown_set_new (grown_set_new hgr3 (p := ⟨w.heap.size, 0, none⟩) (by simp) (.slice SA segs.length c)) (p := ⟨w.heap.size, 1, none⟩) (by simp) (.slice TA atts.length d)
        have hss := (hs3.set (p := ⟨w.heap.size, 0, none⟩) hlt (.slice SA segs.length c)).set (p := ⟨w.heap.size, 1, none⟩) hlt (.slice TA atts.length d)
        have hht := hh3.two hres3 (by omega) (.slice SA segs.length c) (.slice TA atts.length d)
        have hzz := hgr.size
        have HHT := Lib.hid hht
        have HGS := Lib.hid hgs
        have HSS := Lib.hid hss
        clear hht hgs hss hh3 hk3 hres3 hs3 hgr3
        go_wp2_with fail
        refine bodyPost_ret (v := .agg #[.slice SA segs.length c, .slice TA atts.length d]) (by simp [results, Tryz.results44, go_sem, z0, z1, z2]) rfl ?_
        exact ⟨SA, TA, c, d, segs, atts, rfl, HHT.out.weak hzz, hc, n4, hm, HL.out, HO.out, HSS.out.more (by omega), HGS.out⟩
      · have d5 : (histF segs atts == 0) = false := by simpa using hf
        clear hf
        generalize histF segs atts = ef at *
        obtain ⟨q0, q1⟩ := hk3.two_
        have qz := hk3.lt
        go_wp2_with fail
        go_roundw
        case rel => exact ⟨k + 1, by omega, by go_num, hres3, hs3.more (by omega), hgr3⟩
        case measure => simp [intOf]; omega
    · have d8 : decide ((k : Int) < 8) = false := by simp; omega
      obtain ⟨r0, r1⟩ := hres.two_
      have rz := hres.lt
      have rf0 := hres.thaw 0
      have rf1 := hres.thaw 1
      obtain ⟨z0, z1, z2⟩ := hres.two2 (.slice (some ⟨wr.heap.size, 0, none⟩) 1 1) (.slice none 0 0)
      have z0 := cell_al z0 (.cells #[.string ⟨#[97, 97]⟩] 9)
      have z1 := cell_al z1 (.cells #[.string ⟨#[97, 97]⟩] 9)
      have hgs := grown_alloc (grown_set_new (grown_set_new hgr (p := ⟨w.heap.size, 0, none⟩) (by simp) (.slice (some ⟨wr.heap.size, 0, none⟩) 1 1)) (p := ⟨w.heap.size, 1, none⟩) (by simp) (.slice none 0 0)) (.cells #[.string ⟨#[97, 97]⟩] 9)
      have hss := ((hsr.set (p := ⟨w.heap.size, 0, none⟩) hlt (.slice (some ⟨wr.heap.size, 0, none⟩) 1 1)).set (p := ⟨w.heap.size, 1, none⟩) hlt (.slice none 0 0)).alloc (.cells #[.string ⟨#[97, 97]⟩] 9)
      have hlit : Blk (((wr.setCell ⟨w.heap.size, 0, none⟩ (.slice (some ⟨wr.heap.size, 0, none⟩) 1 1)).setCell ⟨w.heap.size, 1, none⟩ (.slice none 0 0)).alloc (.cells #[.string ⟨#[97, 97]⟩] 9)) wr.heap.size 9 #[.string ⟨#[97, 97]⟩] := by
        have := Blk.new ((wr.setCell ⟨w.heap.size, 0, none⟩ (.slice (some ⟨wr.heap.size, 0, none⟩) 1 1)).setCell ⟨w.heap.size, 1, none⟩ (.slice none 0 0)) 9 #[.string ⟨#[97, 97]⟩]
        simpa using this
      have hrow : Hist (((wr.setCell ⟨w.heap.size, 0, none⟩ (.slice (some ⟨wr.heap.size, 0, none⟩) 1 1)).setCell ⟨w.heap.size, 1, none⟩ (.slice none 0 0)).alloc (.cells #[.string ⟨#[97, 97]⟩] 9)) w.heap.size (some ⟨wr.heap.size, 0, none⟩) none [[97, 97]] [] := ⟨Row.lit (n := 1) (size := 1) hlit (by omega) rfl, [], Row.none_ _ _ _ _, fun i h => by simp at h⟩
      have Z := Lib.hid (And.intro z0 (And.intro z1 z2))
      have HHT := Lib.hid hrow
      have HGS := Lib.hid hgs
      have HSS := Lib.hid hss
      clear hgs hss hrow hlit z0 z1 z2
      go_wp2_with fail
      obtain ⟨z0, z1, z2⟩ := Z.out
      refine bodyPost_ret (v := .agg #[.slice (some ⟨wr.heap.size, 0, none⟩) 1 1, .slice none 0 0]) (by simp only [results, Tryz.results44, go_sem]; simp [go_sem, z0, z1]) rfl ?_
      exact ⟨some ⟨wr.heap.size, 0, none⟩, none, 1, 0, [[97, 97]], [], rfl, HHT.out, by simp, by simp, by simp, fun i h => by simp at h, aa_ok, HSS.out.more (by omega), HGS.out⟩
end Go.Proofs.YtagghmfhfboejaaGreatDoor
