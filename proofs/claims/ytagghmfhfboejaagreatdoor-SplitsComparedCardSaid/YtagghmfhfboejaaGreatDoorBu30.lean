/- Texts of this seat, laid together: Hf Ht. -/
import Derived.Test.YtagghmfhfboejaaGreatDoorBu21
import Derived.Test.YtagghmfhfboejaaGreatDoorBu27
import Derived.Test.YtagghmfhfboejaaGreatDoorBu28
import Derived.Test.YtagghmfhfboejaaGreatDoorBu19
import Derived.Test.YtagghmfhfboejaaGreatDoorBu29
import Derived.Test.YtagghmfhfboejaaGreatDoorBu11
/- The walks of segment.Times, Golds, Records (and of SumOfBest and Best where a history is not right), splitref1.AttemptAt and RecordsOf. -/
namespace Go.Proofs.YtagghmfhfboejaaGreatDoor
set_option linter.unusedVariables false
set_option linter.unusedSimpArgs false
open Go.RowKit

/-- Sizes that no check refuses. -/
structure HistSz (segs : List (List UInt8)) (atts : List Att) (c : Nat) : Prop where
  hc : segs.length ≤ c
  h9 : segs.length ≤ 1000000000
  h8 : atts.length ≤ 1000000000
  h7 : ∀ i (h : i < atts.length), atts[i].2.length ≤ 1000000000
  h6 : ∀ s ∈ segs, s.length ≤ 1000000000
set_option maxHeartbeats 1000000 in
theorem Times_bad (SA TA : Option Addr) (c d lo : Nat) (no : Int) (segs : List (List UInt8)) (atts : List Att) (w : World) (hh : Hist w lo SA TA segs atts) (hz : HistSz segs atts c) (hf : histF segs atts ≠ 0) :
    Calls Tryz.prog 11 #[.agg #[.slice SA segs.length c, .slice TA atts.length d], .int .i64 no] w fun e w' => e = .returned (.tuple #[.slice none 0 0, .int .i64 (histF segs atts)]) ∧ Below w.heap.size w w' := by
  have d5 : (histF segs atts != 0) = true := by simpa using hf
  clear hf
  go_enter Tryz.func11, Tryz.ntmps11
  go_wp2_with fail
  have hb0 : Below w.heap.size w (w.alloc (.cells #[.slice SA segs.length c, .slice TA atts.length d] 29)) := (Below.refl _ _).alloc (Nat.le_refl _) _
  have hk0 : Blk (w.alloc (.cells #[.slice SA segs.length c, .slice TA atts.length d] 29)) w.heap.size 29 #[.slice SA segs.length c, .slice TA atts.length d] := Blk.new _ _ _
  have hh0 := hh.alloc (.cells #[.slice SA segs.length c, .slice TA atts.length d] 29)
  generalize w.alloc (.cells #[.slice SA segs.length c, .slice TA atts.length d] 29) = w0 at *
  refine (checkHistory_any _ _ _ _ _ segs atts _ hh0 hz.hc hz.h9 hz.h8 hz.h7 hz.h6).mono ?_
  rintro e w1 ⟨rfl, hb1⟩
  have hh1 := hh0.below hb1
  have hk1 := hk0.below hb1
  have hx1 := hb0.trans (hb1.mono hb0.size)
  clear hb1 hb0 hh0 hk0 hh
  generalize he : histF segs atts = ef at *
  have HE := Lib.hid he
  clear he
  go_wp2_with fail
  go_returns
  exact ⟨by first | (rw [HE.out]; done) | (rw [HE.out]; rfl), hx1⟩
set_option maxHeartbeats 1000000 in
theorem Golds_bad (SA TA : Option Addr) (c d lo : Nat) (segs : List (List UInt8)) (atts : List Att) (w : World) (hh : Hist w lo SA TA segs atts) (hz : HistSz segs atts c) (hf : histF segs atts ≠ 0) :
    Calls Tryz.prog 12 #[.agg #[.slice SA segs.length c, .slice TA atts.length d]] w fun e w' => e = .returned (.tuple #[.slice none 0 0, .int .i64 (histF segs atts)]) ∧ Below w.heap.size w w' := by
  have d5 : (histF segs atts != 0) = true := by simpa using hf
  clear hf
  go_enter Tryz.func12, Tryz.ntmps12
  go_wp2_with fail
  have hb0 : Below w.heap.size w (w.alloc (.cells #[.slice SA segs.length c, .slice TA atts.length d] 29)) := (Below.refl _ _).alloc (Nat.le_refl _) _
  have hk0 : Blk (w.alloc (.cells #[.slice SA segs.length c, .slice TA atts.length d] 29)) w.heap.size 29 #[.slice SA segs.length c, .slice TA atts.length d] := Blk.new _ _ _
  have hh0 := hh.alloc (.cells #[.slice SA segs.length c, .slice TA atts.length d] 29)
  generalize w.alloc (.cells #[.slice SA segs.length c, .slice TA atts.length d] 29) = w0 at *
  refine (checkHistory_any _ _ _ _ _ segs atts _ hh0 hz.hc hz.h9 hz.h8 hz.h7 hz.h6).mono ?_
  rintro e w1 ⟨rfl, hb1⟩
  have hh1 := hh0.below hb1
  have hk1 := hk0.below hb1
  have hx1 := hb0.trans (hb1.mono hb0.size)
  clear hb1 hb0 hh0 hk0 hh
  generalize he : histF segs atts = ef at *
  have HE := Lib.hid he
  clear he
  go_wp2_with fail
  go_returns
  exact ⟨by first | (rw [HE.out]; done) | (rw [HE.out]; rfl), hx1⟩
set_option maxHeartbeats 1000000 in
theorem SumOfBest_bad (SA TA : Option Addr) (c d lo : Nat) (segs : List (List UInt8)) (atts : List Att) (w : World) (hh : Hist w lo SA TA segs atts) (hz : HistSz segs atts c) (hf : histF segs atts ≠ 0) :
    Calls Tryz.prog 13 #[.agg #[.slice SA segs.length c, .slice TA atts.length d]] w fun e w' => e = .returned (.tuple #[.int .i64 0, .bool false, .int .i64 (histF segs atts)]) ∧ Below w.heap.size w w' := by
  have d5 : (histF segs atts != 0) = true := by simpa using hf
  clear hf
  go_enter Tryz.func13, Tryz.ntmps13
  go_wp2_with fail
  have hb0 : Below w.heap.size w (w.alloc (.cells #[.slice SA segs.length c, .slice TA atts.length d] 29)) := (Below.refl _ _).alloc (Nat.le_refl _) _
  have hk0 : Blk (w.alloc (.cells #[.slice SA segs.length c, .slice TA atts.length d] 29)) w.heap.size 29 #[.slice SA segs.length c, .slice TA atts.length d] := Blk.new _ _ _
  have hh0 := hh.alloc (.cells #[.slice SA segs.length c, .slice TA atts.length d] 29)
  generalize w.alloc (.cells #[.slice SA segs.length c, .slice TA atts.length d] 29) = w0 at *
  refine (checkHistory_any _ _ _ _ _ segs atts _ hh0 hz.hc hz.h9 hz.h8 hz.h7 hz.h6).mono ?_
  rintro e w1 ⟨rfl, hb1⟩
  have hh1 := hh0.below hb1
  have hk1 := hk0.below hb1
  have hx1 := hb0.trans (hb1.mono hb0.size)
  clear hb1 hb0 hh0 hk0 hh
  generalize he : histF segs atts = ef at *
  have HE := Lib.hid he
  clear he
  go_wp2_with fail
  go_returns
  exact ⟨by first | (rw [HE.out]; done) | (rw [HE.out]; rfl), hx1⟩
set_option maxHeartbeats 1000000 in
theorem Best_bad (SA TA : Option Addr) (c d lo : Nat) (segs : List (List UInt8)) (atts : List Att) (w : World) (hh : Hist w lo SA TA segs atts) (hz : HistSz segs atts c) (hf : histF segs atts ≠ 0) :
    Calls Tryz.prog 14 #[.agg #[.slice SA segs.length c, .slice TA atts.length d]] w fun e w' => e = .returned (.tuple #[.int .i64 0, .int .i64 0, .bool false, .int .i64 (histF segs atts)]) ∧ Below w.heap.size w w' := by
  have d5 : (histF segs atts != 0) = true := by simpa using hf
  clear hf
  go_enter Tryz.func14, Tryz.ntmps14
  go_wp2_with fail
  have hb0 : Below w.heap.size w (w.alloc (.cells #[.slice SA segs.length c, .slice TA atts.length d] 29)) := (Below.refl _ _).alloc (Nat.le_refl _) _
  have hk0 : Blk (w.alloc (.cells #[.slice SA segs.length c, .slice TA atts.length d] 29)) w.heap.size 29 #[.slice SA segs.length c, .slice TA atts.length d] := Blk.new _ _ _
  have hh0 := hh.alloc (.cells #[.slice SA segs.length c, .slice TA atts.length d] 29)
  generalize w.alloc (.cells #[.slice SA segs.length c, .slice TA atts.length d] 29) = w0 at *
  refine (checkHistory_any _ _ _ _ _ segs atts _ hh0 hz.hc hz.h9 hz.h8 hz.h7 hz.h6).mono ?_
  rintro e w1 ⟨rfl, hb1⟩
  have hh1 := hh0.below hb1
  have hk1 := hk0.below hb1
  have hx1 := hb0.trans (hb1.mono hb0.size)
  clear hb1 hb0 hh0 hk0 hh
  generalize he : histF segs atts = ef at *
  have HE := Lib.hid he
  clear he
  go_wp2_with fail
  go_returns
  exact ⟨by first | (rw [HE.out]; done) | (rw [HE.out]; rfl), hx1⟩
set_option maxHeartbeats 1000000 in
theorem Records_bad (SA TA : Option Addr) (c d lo : Nat) (segs : List (List UInt8)) (atts : List Att) (w : World) (hh : Hist w lo SA TA segs atts) (hz : HistSz segs atts c) (hf : histF segs atts ≠ 0) :
    Calls Tryz.prog 15 #[.agg #[.slice SA segs.length c, .slice TA atts.length d]] w fun e w' => e = .returned (.tuple #[.slice none 0 0, .int .i64 (histF segs atts)]) ∧ Below w.heap.size w w' := by
  have d5 : (histF segs atts != 0) = true := by simpa using hf
  clear hf
  go_enter Tryz.func15, Tryz.ntmps15
  go_wp2_with fail
  have hb0 : Below w.heap.size w (w.alloc (.cells #[.slice SA segs.length c, .slice TA atts.length d] 29)) := (Below.refl _ _).alloc (Nat.le_refl _) _
  have hk0 : Blk (w.alloc (.cells #[.slice SA segs.length c, .slice TA atts.length d] 29)) w.heap.size 29 #[.slice SA segs.length c, .slice TA atts.length d] := Blk.new _ _ _
  have hh0 := hh.alloc (.cells #[.slice SA segs.length c, .slice TA atts.length d] 29)
  generalize w.alloc (.cells #[.slice SA segs.length c, .slice TA atts.length d] 29) = w0 at *
  refine (checkHistory_any _ _ _ _ _ segs atts _ hh0 hz.hc hz.h9 hz.h8 hz.h7 hz.h6).mono ?_
  rintro e w1 ⟨rfl, hb1⟩
  have hh1 := hh0.below hb1
  have hk1 := hk0.below hb1
  have hx1 := hb0.trans (hb1.mono hb0.size)
  clear hb1 hb0 hh0 hk0 hh
  generalize he : histF segs atts = ef at *
  have HE := Lib.hid he
  clear he
  go_wp2_with fail
  go_returns
  exact ⟨by first | (rw [HE.out]; done) | (rw [HE.out]; rfl), hx1⟩
set_option maxHeartbeats 1000000 in
theorem Golds_ok (SA TA : Option Addr) (c d lo : Nat) (segs : List (List UInt8)) (atts : List Att) (w : World) (hh : Hist w lo SA TA segs atts) (hc : segs.length ≤ c) (hok : HistOk segs atts) :
    Calls Tryz.prog 12 #[.agg #[.slice SA segs.length c, .slice TA atts.length d]] w fun e w' => ∃ A' c', e = .returned (.tuple #[.slice A' (goldL atts segs.length).length c', .int .i64 0]) ∧ w'.ownsRow w.heap.size 3 1 (.slice A' (goldL atts segs.length).length c') (goldL atts segs.length).length (ints (goldL atts segs.length)) ∧ Below w.heap.size w w' := by
  have HO := Lib.hid hok
  clear hok
  go_enter Tryz.func12, Tryz.ntmps12
  go_wp2_with fail
  have hb0 : Below w.heap.size w (w.alloc (.cells #[.slice SA segs.length c, .slice TA atts.length d] 29)) := (Below.refl _ _).alloc (Nat.le_refl _) _
  have hk0 : Blk (w.alloc (.cells #[.slice SA segs.length c, .slice TA atts.length d] 29)) w.heap.size 29 #[.slice SA segs.length c, .slice TA atts.length d] := Blk.new _ _ _
  have hh0 := hh.alloc (.cells #[.slice SA segs.length c, .slice TA atts.length d] 29)
  generalize w.alloc (.cells #[.slice SA segs.length c, .slice TA atts.length d] 29) = w0 at *
  refine (checkHistory_ok _ _ _ _ _ segs atts _ hh0 hc HO.out).mono ?_
  rintro e w1 ⟨rfl, hb1⟩
  have hh1 := hh0.below hb1
  have hk1 := hk0.below hb1
  have hx1 := hb0.trans (hb1.mono hb0.size)
  clear hb1 hb0 hh0 hk0 hh
  go_wp2_with fail
  refine (golds_any _ _ _ _ _ _ segs atts _ hk1 hh1 HO.out).mono ?_
  rintro e w2 ⟨A', c', rfl, hown, hb2⟩
  go_wp2_with fail
  go_returns
  exact ⟨A', c', rfl, own_weak hown hx1.size, below_up hx1 hb2⟩

/-- The times of an attempt by its number. -/
def timesAt (atts : List Att) (no : Int) : List Int := if atI atts no < 0 then [] else tmL (atts.getD (atI atts no).toNat (0, [])).2 (atts.getD (atI atts no).toNat (0, [])).2.length
def timesE (atts : List Att) (no : Int) : Int := if atI atts no < 0 then 8 else 0
theorem timesAt_none {atts : List Att} {no : Int} (h : atI atts no = -1) : timesAt atts no = [] ∧ timesE atts no = 8 := by simp [timesAt, timesE, h]
theorem timesAt_some {atts : List Att} {no : Int} {k : Nat} (hk : k < atts.length) (h : atI atts no = k) : timesAt atts no = tmL atts[k].2 atts[k].2.length ∧ timesE atts no = 0 := by
  have hn : ¬ (k : Int) < 0 := by omega
  have e : atts.getD k (0, []) = atts[k] := by rw [List.getD_eq_getElem?_getD, List.getElem?_eq_getElem hk]; rfl
  simp only [timesAt, timesE, h, hn, if_false, Int.toNat_natCast, e, and_self]
set_option maxHeartbeats 2000000 in
theorem Times_ok (SA TA : Option Addr) (c d lo : Nat) (no : Int) (segs : List (List UInt8)) (atts : List Att) (w : World) (hh : Hist w lo SA TA segs atts) (hc : segs.length ≤ c) (hok : HistOk segs atts) :
    Calls Tryz.prog 11 #[.agg #[.slice SA segs.length c, .slice TA atts.length d], .int .i64 no] w fun e w' => ∃ A' c', e = .returned (.tuple #[.slice A' (timesAt atts no).length c', .int .i64 (timesE atts no)]) ∧ w'.ownsRow w.heap.size 3 1 (.slice A' (timesAt atts no).length c') (timesAt atts no).length (ints (timesAt atts no)) ∧ Below w.heap.size w w' := by
  have HO := Lib.hid hok
  have n2 := hok.n2
  have hm := hok.m
  clear hok
  go_enter Tryz.func11, Tryz.ntmps11
  go_wp2_with fail
  have hb0 : Below w.heap.size w (w.alloc (.cells #[.slice SA segs.length c, .slice TA atts.length d] 29)) := (Below.refl _ _).alloc (Nat.le_refl _) _
  have hk0 : Blk (w.alloc (.cells #[.slice SA segs.length c, .slice TA atts.length d] 29)) w.heap.size 29 #[.slice SA segs.length c, .slice TA atts.length d] := Blk.new _ _ _
  have hh0 := hh.alloc (.cells #[.slice SA segs.length c, .slice TA atts.length d] 29)
  generalize w.alloc (.cells #[.slice SA segs.length c, .slice TA atts.length d] 29) = w0 at *
  refine (checkHistory_ok _ _ _ _ _ segs atts _ hh0 hc HO.out).mono ?_
  rintro e w1 ⟨rfl, hb1⟩
  have hh1 := hh0.below hb1
  have hk1 := hk0.below hb1
  have hx1 := hb0.trans (hb1.mono hb0.size)
  clear hb1 hb0 hh0 hk0 hh
  obtain ⟨q0, q1⟩ := hk1.two_
  have hzk := hk1.lt
  go_wp2_with fail
  go_loopw [17] (fun i wr => ∃ k : Nat, k ≤ atts.length ∧ i = .int .i64 k ∧ Hid (∀ j (hj : j < atts.length), j < k → atts[j].1 ≠ no) ∧ Below w1.heap.size w1 wr) (fun i _ => atts.length - (intOf i).toNat)
  case atStart => exact ⟨0, Nat.zero_le _, rfl, Lib.hid (fun _ _ h => absurd h (Nat.not_lt_zero _)), Below.refl _ _⟩
  case round =>
    obtain ⟨k, hk, rfl, HA, hbw⟩ := hrel
    have hz := hbw.size
    have hzx := hx1.size
    by_cases hlt : k < atts.length
    · obtain ⟨b, off, B, cB, rfl, hbs, c0, c1', hrB⟩ := (hh1.below hbw).att hlt
      have HSP := Lib.hid (HO.out.spl k hlt)
      have hsl := HSP.out.len
      have hrBa := hrB.alloc (.cells #[.int .i64 atts[k].1, .slice B atts[k].2.length cB] 45)
      by_cases hno : atts[k].1 = no
      · obtain ⟨t1, t2⟩ := timesAt_some hlt (atI_some hlt HA.out hno)
        have T1 := Lib.hid t1
        have T2 := Lib.hid t2
        have d1 : (atts[k].1 == no) = true := by simpa using hno
        have hba : Below w1.heap.size w1 (wr.alloc (.cells #[.int .i64 atts[k].1, .slice B atts[k].2.length cB] 45)) := (by repeat (first | exact hbw | refine Below.alloc ?_ (by first | omega | (simp; omega)) _ | refine below_drewN' ?_ _ | refine Below.drew ?_))
        clear t1 t2 hno
        generalize atts[k].1 = n0 at *
        generalize atts[k].2 = l at *
        go_wp2_with fail
        refine (htimes_any segs.length B _ _ l _ hrBa (by omega) HSP.out).mono ?_
        rintro e w2 ⟨A', c', rfl, hownT, hb2⟩
        have hx2 := below_up (below_up hx1 hba) hb2
        have hbs2 := (below_up hx1 hba).size
        go_wp2_with fail
        go_returns
        exact ⟨A', c', by rw [T1.out, T2.out]; rfl, by rw [T1.out]; exact own_weak hownT hbs2, hx2⟩
      · have HB : Hid (∀ j (hj : j < atts.length), j < k + 1 → atts[j].1 ≠ no) := Lib.hid (fun j hj hjk => by
          rcases Nat.lt_or_ge j k with h | h
          · exact HA.out j hj h
          · have : j = k := by omega
            subst this; exact hno)
        have d1 : (atts[k].1 == no) = false := by simpa using hno
        clear hno
        generalize atts[k].1 = n0 at *
        generalize atts[k].2 = l at *
        go_wp2_with fail
        go_roundw
        case rel => exact ⟨k + 1, by omega, by go_num, HB, (by repeat (first | exact hbw | refine Below.alloc ?_ (by first | omega | (simp; omega)) _ | refine below_drewN' ?_ _ | refine Below.drew ?_))⟩
        case measure => simp [intOf]; omega
    · obtain ⟨t1, t2⟩ := timesAt_none (atI_none (atts := atts) (no := no) (fun j hj => HA.out j hj (by omega)))
      have T1 := Lib.hid t1
      have T2 := Lib.hid t2
      clear t1 t2
      go_wp2_with fail
      go_returns
      exact ⟨none, 0, by rw [T1.out, T2.out]; rfl, by rw [T1.out]; exact World.ownsRow_nil _ _ _ _, below_up hx1 hbw⟩

theorem attemptAt1_any (B : Option Addr) (k cc g : Nat) (n no : Int) (w : World) (hg : Blk w g 3 #[.int .i64 no]) :
    Calls Tryz.prog 66 #[.agg #[.int .i64 n, .slice B k cc], .pointer (some ⟨g, 0, none⟩)] w fun e w' => e = .returned (.bool (n == no)) ∧ Below w.heap.size w w' := by
  have c0 : w.cell? ⟨g, 0, none⟩ = some (.int .i64 no) := by simpa using hg.cell 0
  have zg := hg.lt
  go_enter Tryz.func66, Tryz.ntmps66
  go_wp2_with fail
  go_ret
  exact ⟨rfl, (Below.refl _ _).alloc (Nat.le_refl _) _⟩
set_option maxHeartbeats 1000000 in
theorem indexFuncA_any (TA : Option Addr) (d g lo : Nat) (SA : Option Addr) (segs : List (List UInt8)) (atts : List Att) (no : Int) (w : World) (hh : Hist w lo SA TA segs atts) (hg : Blk w g 3 #[.int .i64 no]) (hm : atts.length ≤ 1000000000) :
    Calls Tryz.prog 65 #[.slice TA atts.length d, .func (.func 66) #[] #[.pointer (some ⟨g, 0, none⟩)]] w fun e w' => e = .returned (.int .i64 (atI atts no)) ∧ Below w.heap.size w w' := by
  go_enter Tryz.func65, Tryz.ntmps65
  go_wp2_with fail
  go_loopw [8] (fun i wr => ∃ k : Nat, k ≤ atts.length ∧ i = .int .i64 k ∧ Hid (∀ j (hj : j < atts.length), j < k → atts[j].1 ≠ no) ∧ Below w.heap.size w wr) (fun i _ => atts.length - (intOf i).toNat)
  case atStart => exact ⟨0, Nat.zero_le _, rfl, Lib.hid (fun _ _ h => absurd h (Nat.not_lt_zero _)), Below.refl _ _⟩
  case round =>
    obtain ⟨k, hk, rfl, HA, hbw⟩ := hrel
    by_cases hlt : k < atts.length
    · obtain ⟨b, off, B, cB, rfl, hbs, c0, c1', hrB⟩ := (hh.below hbw).att hlt
      have hgw := hg.below hbw
      by_cases hno : atts[k].1 = no
      · have HE := Lib.hid (atI_some hlt HA.out hno)
        have d1 : (atts[k].1 == no) = true := by simpa using hno
        clear hno
        generalize atts[k].1 = n0 at *
        generalize atts[k].2.length = ll at *
        go_wp2_with fail
        refine (attemptAt1_any _ _ _ _ _ _ _ hgw).mono ?_
        rintro e w2 ⟨rfl, hb2⟩
        rw [d1]
        go_wp2_with fail
        go_ret
        exact ⟨ret_int' HE.out.symm, below_up hbw hb2⟩
      · have HB : Hid (∀ j (hj : j < atts.length), j < k + 1 → atts[j].1 ≠ no) := Lib.hid (fun j hj hjk => by
          rcases Nat.lt_or_ge j k with h | h
          · exact HA.out j hj h
          · have : j = k := by omega
            subst this; exact hno)
        have d1 : (atts[k].1 == no) = false := by simpa using hno
        clear hno
        generalize atts[k].1 = n0 at *
        generalize atts[k].2.length = ll at *
        go_wp2_with fail
        refine (attemptAt1_any _ _ _ _ _ _ _ hgw).mono ?_
        rintro e w2 ⟨rfl, hb2⟩
        rw [d1]
        have hb9 := below_up hbw hb2
        clear hb2
        go_wp2_with fail
        go_roundw
        case rel => exact ⟨k + 1, by omega, by go_num, HB, hb9⟩
        case measure => simp [intOf]; omega
    · have HE := Lib.hid (atI_none (atts := atts) (no := no) (fun j hj => HA.out j hj (by omega)))
      go_wp2_with fail
      go_ret
      exact ⟨ret_int' HE.out.symm, hbw⟩
theorem attemptAt_any (SA TA : Option Addr) (c d lo : Nat) (no : Int) (segs : List (List UInt8)) (atts : List Att) (w : World) (hh : Hist w lo SA TA segs atts) (hm : atts.length ≤ 1000000000) :
    Calls Tryz.prog 17 #[.agg #[.slice SA segs.length c, .slice TA atts.length d], .int .i64 no] w fun e w' => e = .returned (.int .i64 (atI atts no)) ∧ Below w.heap.size w w' := by
  go_enter Tryz.func17, Tryz.ntmps17
  go_wp2_with fail
  have hh2 := (hh.alloc (.cells #[.slice SA segs.length c, .slice TA atts.length d] 29)).alloc (.cells #[.int .i64 no] 3)
  have hb2 : Below w.heap.size w ((w.alloc (.cells #[.slice SA segs.length c, .slice TA atts.length d] 29)).alloc (.cells #[.int .i64 no] 3)) := ((Below.refl _ _).alloc (Nat.le_refl _) _).alloc (by simp) _
  have hg2 : Blk ((w.alloc (.cells #[.slice SA segs.length c, .slice TA atts.length d] 29)).alloc (.cells #[.int .i64 no] 3)) (w.heap.size + 1) 3 #[.int .i64 no] := by
    have := Blk.new (w.alloc (.cells #[.slice SA segs.length c, .slice TA atts.length d] 29)) 3 #[.int .i64 no]
    simpa using this
  refine (indexFuncA_any _ _ _ _ SA segs atts no _ hh2 hg2 hm).mono ?_
  rintro e w2 ⟨rfl, hb3⟩
  go_wp2_with fail
  go_ret
  exact ⟨rfl, below_up hb2 hb3⟩
end Go.Proofs.YtagghmfhfboejaaGreatDoor
/- The walk of the stream's function that draws a history that is right. -/
namespace Go.Proofs.YtagghmfhfboejaaGreatDoor
set_option linter.unusedVariables false
set_option linter.unusedSimpArgs false
open Go.RowKit Go.Sort

def RightHPost (w : World) (g N : Nat) (e : Ending) (w' : World) : Prop :=
  ∃ (SA TA : Option Addr) (c d : Nat) (segs : List (List UInt8)) (atts : List Att), e = .returned (.agg #[.slice SA segs.length c, .slice TA atts.length d]) ∧ Hist w' w.heap.size SA TA segs atts ∧ segs.length ≤ c ∧ segs.length ≤ 4 ∧ atts.length ≤ 7 ∧ (∀ i (h : i < atts.length), atts[i].2.length ≤ 4) ∧ HistOk segs atts ∧ Str w' g N ∧ w.grownBy w' (some g)
theorem Hist.two {w : World} {lo r : Nat} {SA TA : Option Addr} {segs : List (List UInt8)} {atts : List Att} {t : TypeId} {cs : Array Value} (h : Hist w lo SA TA segs atts) (hr : Blk w r t cs) (hlo : r < lo) (u v : Value) : Hist ((w.setCell ⟨r, 0, none⟩ u).setCell ⟨r, 1, none⟩ v) lo SA TA segs atts :=
  h.stream (g := r) (grown_set (grown_set (World.grownBy.refl w _) 0 u) 1 v) hlo
theorem aa_ok : HistOk [[97, 97]] [] := ⟨by decide, by decide, by decide, by decide, by decide, fun i h => by simp at h, fun i h => by simp at h, fun i h => by simp at h⟩
set_option maxHeartbeats 4000000 in
theorem rightHistory_any (g N : Nat) (w : World) (hs : Str w g N) (hN : N < 4611686018425000000) :
    Calls Tryz.prog 44 #[.pointer (some ⟨g, 0, none⟩)] w (RightHPost w g (N + 3000)) := by
  have hlt := hs.lt
  go_enter Tryz.func44, Tryz.ntmps44
  go_wp2_with fail
  have hs0 := hs.alloc (.cells #[.slice none 0 0, .slice none 0 0] 29)
  have hres : Blk (w.alloc (.cells #[.slice none 0 0, .slice none 0 0] 29)) w.heap.size 29 #[.slice none 0 0, .slice none 0 0] := Blk.new _ _ _
  have hgr0 : w.grownBy (w.alloc (.cells #[.slice none 0 0, .slice none 0 0] 29)) (some g) := World.grownBy_alloc _ _ _
  generalize w.alloc (.cells #[.slice none 0 0, .slice none 0 0] 29) = w0 at *
  go_loopw [4] (fun i wr => ∃ k : Nat, k ≤ 8 ∧ i = .int .i64 k ∧ Blk wr w.heap.size 29 #[.slice none 0 0, .slice none 0 0] ∧ Str wr g (N + 320 * k) ∧ w.grownBy wr (some g)) (fun i _ => 8 - (intOf i).toNat)
  case atStart => exact ⟨0, by omega, rfl, hres, hs0, hgr0⟩
  case round =>
    clear hres hs0 hgr0
    obtain ⟨k, hk, rfl, hres, hsr, hgr⟩ := hrel
    have hzr := hres.lt
    by_cases hk8 : k < 8
    · have d8 : decide ((k : Int) < 8) = true := by simp; omega
      go_wp2_with fail
      refine (history_any g _ _ hsr (by omega)).mono ?_
      rintro e w1 ⟨SA, TA, c, d, segs, atts, rfl, hh, hc, n1, n4, hm, hl, hsl, hs1, hg1⟩
      have hz9 : HistSz segs atts c := ⟨hc, by omega, by omega, fun i h => by have := hl i h; omega, fun s hs => by have := hsl s hs; omega⟩
      have hres1 := hres.stream hg1 hlt
      have hgr1 := grown_trans' hgr hg1
      have HL := Lib.hid hl
      clear hl hsl hres hsr hg1
      go_wp2_with fail
      have hh1 := hh.alloc (.cells #[.slice SA segs.length c, .slice TA atts.length d] 29)
      have hk1 : Blk (w1.alloc (.cells #[.slice SA segs.length c, .slice TA atts.length d] 29)) w1.heap.size 29 #[.slice SA segs.length c, .slice TA atts.length d] := Blk.new _ _ _
      have hres1 := hres1.alloc (.cells #[.slice SA segs.length c, .slice TA atts.length d] 29)
      have hs1 := hs1.alloc (.cells #[.slice SA segs.length c, .slice TA atts.length d] 29)
      have hgr1 := grown_alloc hgr1 (.cells #[.slice SA segs.length c, .slice TA atts.length d] 29)
      generalize w1.alloc (.cells #[.slice SA segs.length c, .slice TA atts.length d] 29) = w2 at *
      generalize w1.heap.size = bx at *
      refine (historyFault_any _ _ _ _ _ segs atts _ hh1 hz9.hc hz9.h9 hz9.h8 hz9.h7 hz9.h6).mono ?_
      rintro e w3 ⟨rfl, hb3⟩
      have hh3 := hh1.below hb3
      have hk3 := hk1.below hb3
      have hres3 := hres1.below hb3
      have hs3 := hs1.keep hb3
      have hgr3 := grown_trans' hgr1 (grown_of_below hb3 _)
      clear hh hh1 hk1 hres1 hs1 hgr1 hb3
      by_cases hf : histF segs atts = 0
      · have HO := Lib.hid (histF_ok hf)
        rw [hf]
        clear hf
        obtain ⟨q0, q1⟩ := hk3.two_
        have qz := hk3.lt
        obtain ⟨r0, r1⟩ := hres3.two_
        have rz := hres3.lt
        have rf0 := hres3.thaw 0
        have rf1 := hres3.thaw 1
        obtain ⟨z0, z1, z2⟩ := hres3.two2 (.slice SA segs.length c) (.slice TA atts.length d)
        have hgs := grown_set_new (grown_set_new hgr3 (p := ⟨w.heap.size, 0, none⟩) (by simp) (.slice SA segs.length c)) (p := ⟨w.heap.size, 1, none⟩) (by simp) (.slice TA atts.length d)
        have hss := (hs3.set (p := ⟨w.heap.size, 0, none⟩) hlt (.slice SA segs.length c)).set (p := ⟨w.heap.size, 1, none⟩) hlt (.slice TA atts.length d)
        have hht := hh3.two hres3 (by omega) (.slice SA segs.length c) (.slice TA atts.length d)
        have hzz := hgr.size
        have HHT := Lib.hid hht
        have HGS := Lib.hid hgs
        have HSS := Lib.hid hss
        clear hht hgs hss hh3 hk3 hres3 hs3 hgr3
        go_wp2_with fail
        refine bodyPost_ret (v := .agg #[.slice SA segs.length c, .slice TA atts.length d]) (by simp [results, Tryz.results44, go_sem, z0, z1, z2]) rfl ?_
        exact ⟨SA, TA, c, d, segs, atts, rfl, HHT.out.weak hzz, hc, n4, hm, HL.out, HO.out, HSS.out.more (by omega), HGS.out⟩
      · have d5 : (histF segs atts == 0) = false := by simpa using hf
        clear hf
        generalize histF segs atts = ef at *
        obtain ⟨q0, q1⟩ := hk3.two_
        have qz := hk3.lt
        go_wp2_with fail
        go_roundw
        case rel => exact ⟨k + 1, by omega, by go_num, hres3, hs3.more (by omega), hgr3⟩
        case measure => simp [intOf]; omega
    · have d8 : decide ((k : Int) < 8) = false := by simp; omega
      obtain ⟨r0, r1⟩ := hres.two_
      have rz := hres.lt
      have rf0 := hres.thaw 0
      have rf1 := hres.thaw 1
      obtain ⟨z0, z1, z2⟩ := hres.two2 (.slice (some ⟨wr.heap.size, 0, none⟩) 1 1) (.slice none 0 0)
      have z0 := cell_al z0 (.cells #[.string ⟨#[97, 97]⟩] 9)
      have z1 := cell_al z1 (.cells #[.string ⟨#[97, 97]⟩] 9)
      have hgs := grown_alloc (grown_set_new (grown_set_new hgr (p := ⟨w.heap.size, 0, none⟩) (by simp) (.slice (some ⟨wr.heap.size, 0, none⟩) 1 1)) (p := ⟨w.heap.size, 1, none⟩) (by simp) (.slice none 0 0)) (.cells #[.string ⟨#[97, 97]⟩] 9)
      have hss := ((hsr.set (p := ⟨w.heap.size, 0, none⟩) hlt (.slice (some ⟨wr.heap.size, 0, none⟩) 1 1)).set (p := ⟨w.heap.size, 1, none⟩) hlt (.slice none 0 0)).alloc (.cells #[.string ⟨#[97, 97]⟩] 9)
      have hlit : Blk (((wr.setCell ⟨w.heap.size, 0, none⟩ (.slice (some ⟨wr.heap.size, 0, none⟩) 1 1)).setCell ⟨w.heap.size, 1, none⟩ (.slice none 0 0)).alloc (.cells #[.string ⟨#[97, 97]⟩] 9)) wr.heap.size 9 #[.string ⟨#[97, 97]⟩] := by
        have := Blk.new ((wr.setCell ⟨w.heap.size, 0, none⟩ (.slice (some ⟨wr.heap.size, 0, none⟩) 1 1)).setCell ⟨w.heap.size, 1, none⟩ (.slice none 0 0)) 9 #[.string ⟨#[97, 97]⟩]
        simpa using this
      have hrow : Hist (((wr.setCell ⟨w.heap.size, 0, none⟩ (.slice (some ⟨wr.heap.size, 0, none⟩) 1 1)).setCell ⟨w.heap.size, 1, none⟩ (.slice none 0 0)).alloc (.cells #[.string ⟨#[97, 97]⟩] 9)) w.heap.size (some ⟨wr.heap.size, 0, none⟩) none [[97, 97]] [] := ⟨Row.lit (n := 1) (size := 1) hlit (by omega) rfl, [], Row.none_ _ _ _ _, fun i h => by simp at h⟩
      have Z := Lib.hid (And.intro z0 (And.intro z1 z2))
      have HHT := Lib.hid hrow
      have HGS := Lib.hid hgs
      have HSS := Lib.hid hss
      clear hgs hss hrow hlit z0 z1 z2
      go_wp2_with fail
      obtain ⟨z0, z1, z2⟩ := Z.out
      refine bodyPost_ret (v := .agg #[.slice (some ⟨wr.heap.size, 0, none⟩) 1 1, .slice none 0 0]) (by simp only [results, Tryz.results44, go_sem]; simp [go_sem, z0, z1]) rfl ?_
      exact ⟨some ⟨wr.heap.size, 0, none⟩, none, 1, 0, [[97, 97]], [], rfl, HHT.out, by simp, by simp, by simp, fun i h => by simp at h, aa_ok, HSS.out.more (by omega), HGS.out⟩
end Go.Proofs.YtagghmfhfboejaaGreatDoor
