/- Texts of this seat, laid together: Cb Po. -/
import Derived.Test.YtagghmfhfboejaaGreatDoorBu51
import Derived.Test.YtagghmfhfboejaaGreatDoorBu31
import Derived.Test.YtagghmfhfboejaaGreatDoorBu35
/- The walks of Splits and Compare where something is wrong, and of HowFault. -/
namespace Go.Proofs.YtagghmfhfboejaaGreatDoor
set_option linter.unusedVariables false
set_option linter.unusedSimpArgs false
open Go.RowKit Go.Sort

theorem rHowFault_any (how : Int) (w : World) : Calls Tryz.prog 38 #[.int .i64 how] w fun e w' => e = .returned (.int .i64 (howE how)) ∧ w = w' := by
  by_cases h : 1 ≤ how ∧ how ≤ 6
  · have HE : Hid (howE how = 0) := Lib.hid (by unfold howE; rw [if_neg (by omega)])
    have h1 := h.1
    have h2 := h.2
    have d1 : decide (1 ≤ how) = true := decide_eq_true h1
    have d2 : decide (how ≤ 6) = true := decide_eq_true h2
    clear h
    go_enter Tryz.func38, Tryz.ntmps38
    go_wp2_with (first | (go_at_call 56; refine (in_any _ _ _ _).mono ?_; rintro e w5 ⟨rfl, rfl⟩))
    go_ret
    exact ⟨ret_int' HE.out.symm, rfl⟩
  · have HE : Hid (howE how = 4) := Lib.hid (by unfold howE; rw [if_pos (by omega)])
    have d1 : (decide (1 ≤ how) && decide (how ≤ 6)) = false := by simp; omega
    clear h
    go_enter Tryz.func38, Tryz.ntmps38
    go_wp2_with (first | (go_at_call 56; refine (in_any _ _ _ _).mono ?_; rintro e w5 ⟨rfl, rfl⟩))
    go_ret
    exact ⟨ret_int' HE.out.symm, rfl⟩
set_option maxHeartbeats 1000000 in
theorem Splits_bad (SA TA : Option Addr) (c d lo : Nat) (how : Int) (segs : List (List UInt8)) (atts : List Att) (w : World) (hh : Hist w lo SA TA segs atts) (hz : HistSz segs atts c) (he : hfE segs atts how ≠ 0) :
    Calls Tryz.prog 29 #[.agg #[.slice SA segs.length c, .slice TA atts.length d], .int .i64 how] w fun e w' => e = .returned (.tuple #[.slice none 0 0, .bool false, .int .i64 (hfE segs atts how)]) ∧ Below w.heap.size w w' := by
  have d5 : (hfE segs atts how != 0) = true := by simpa using he
  clear he
  go_enter Tryz.func29, Tryz.ntmps29
  go_wp2_with fail
  have hb0 : Below w.heap.size w (w.alloc (.cells #[.slice SA segs.length c, .slice TA atts.length d] 29)) := (Below.refl _ _).alloc (Nat.le_refl _) _
  have hk0 : Blk (w.alloc (.cells #[.slice SA segs.length c, .slice TA atts.length d] 29)) w.heap.size 29 #[.slice SA segs.length c, .slice TA atts.length d] := Blk.new _ _ _
  have hh0 := hh.alloc (.cells #[.slice SA segs.length c, .slice TA atts.length d] 29)
  generalize w.alloc (.cells #[.slice SA segs.length c, .slice TA atts.length d] 29) = w0 at *
  refine (howFault_any _ _ _ _ _ _ how segs atts _ hk0 hh0 hz).mono ?_
  rintro e w1 ⟨rfl, hb1⟩
  have hx1 := below_up hb0 hb1
  go_wp2_with fail
  go_returns
  exact ⟨rfl, hx1⟩
set_option maxHeartbeats 4000000 in
set_option maxRecDepth 100000 in
theorem Compare_err (SA TA B : Option Addr) (c d cB lo lo2 : Nat) (how : Int) (live : List Int) (segs : List (List UInt8)) (atts : List Att) (w : World) (hh : Hist w lo SA TA segs atts) (hz : HistSz segs atts c) (hrL : Row w lo2 1 B live.length (ints live)) (hl9 : live.length ≤ 1000000000) (hf : cpE segs atts how live ≠ 0) :
    Calls Tryz.prog 30 #[.agg #[.slice SA segs.length c, .slice TA atts.length d], .int .i64 how, .slice B live.length cB] w fun e w' => e = .returned (.tuple #[.slice none 0 0, .bool false, .int .i64 (cpE segs atts how live)]) ∧ Below w.heap.size w w' := by
  have HE : Hid (firstE [hfE segs atts how, splF segs.length live] = cpE segs atts how live) := Lib.hid rfl
  have d5 : (cpE segs atts how live != 0) = true := by simpa using hf
  clear hf
  have h9 := hz.h9
  go_enter Tryz.func30, Tryz.ntmps30
  go_upto_region 1 with (fail)
  have hx : Below w.heap.size w (w.alloc (.cells #[.slice SA segs.length c, .slice TA atts.length d] 29)) := (Below.refl _ _).alloc (Nat.le_refl _) _
  have hk : Blk (w.alloc (.cells #[.slice SA segs.length c, .slice TA atts.length d] 29)) w.heap.size 29 #[.slice SA segs.length c, .slice TA atts.length d] := Blk.new _ _ _
  have hh := hh.alloc (.cells #[.slice SA segs.length c, .slice TA atts.length d] 29)
  have hrL := hrL.alloc (.cells #[.slice SA segs.length c, .slice TA atts.length d] 29)
  generalize w.alloc (.cells #[.slice SA segs.length c, .slice TA atts.length d] 29) = w0 at *
  obtain ⟨q0, q1⟩ := hk.two_
  have zk := hk.lt
  go_region_held3 (fun w' => w'.cell? ⟨w.heap.size, 0, none⟩ = some (.slice SA segs.length c)) (first | exact q0 | exact q5 | exact cell_al q5 _)
    (first
    | (go_at_call 70; refine (howFault_any _ _ _ _ _ _ how segs atts _ (by first | exact hk | exact hk.drew) (by first | exact hh | exact hh.below (Below.refl _ _).drew) hz).mono ?_; rintro e w5 ⟨rfl, hb5⟩; have q5 := (hb5.cell zk).trans q0)
    | (go_at_call 59; refine (splitsFault_any segs.length B _ _ live _ (by first | exact hrL | exact hrL.drew | exact hrL.drewN 1 | exact hrL.drew.below hb5 | exact (hrL.drewN 1).below hb5) h9 hl9).mono ?_; rintro e w6 ⟨rfl, rfl⟩)
    | (go_at_call 72; refine (first_any _ _ 0 [hfE segs atts how, splF segs.length live] _ (by first | exact row_new' _ (by first | rfl | simp) (by first | omega | (simp; omega)) rfl | exact row_newN _ _ (by first | rfl | simp) (by first | omega | (simp; omega)) rfl | exact row_newD _ (by first | rfl | simp) (by first | omega | (simp; omega)) rfl) (by simp)).mono ?_; rintro e w7 ⟨rfl, rfl⟩))
  have hx6 : Below w.heap.size w w5 := by first | exact below_up hx hb5 | exact below_up hx.drew hb5
  have hz6 := hx6.size
  rw [HE.out]
  go_wp2_with fail
  go_returns
  exact ⟨rfl, (by repeat (first | exact hx6 | refine Below.alloc ?_ (by first | omega | (simp; omega)) _ | refine below_drewN' ?_ _ | refine Below.drew ?_))⟩
end Go.Proofs.YtagghmfhfboejaaGreatDoor
/- The walks of Possible where something is wrong, of splitref1.PossibleOf, and of slices.Equal over deltas. -/
namespace Go.Proofs.YtagghmfhfboejaaGreatDoor
set_option linter.unusedVariables false
set_option linter.unusedSimpArgs false
open Go.RowKit Go.Sort

set_option maxHeartbeats 1000000 in
theorem equalD_any (A B : Option Addr) (c d lo lo' : Nat) (ps qs : List Dlt) (w : World) (hr : Row w lo 4 A ps.length (dls ps)) (hr' : Row w lo' 4 B qs.length (dls qs)) (hl : ps.length ≤ 1000000000) (heq : ps = qs) :
    Calls Tryz.prog 42 #[.slice A ps.length c, .slice B qs.length d] w fun e w' => e = .returned (.bool true) ∧ ∃ q, w' = w.drewN q := by
  subst heq
  have h0 : ((ps.length : Int) != (ps.length : Int)) = false := by simp
  go_enter Tryz.func42, Tryz.ntmps42
  go_wp2_with fail
  go_loopw [13] (fun i wr => ∃ (k : Nat) (q : Nat), k ≤ ps.length ∧ i = .int .i64 k ∧ wr = w.drewN q) (fun i _ => ps.length - (intOf i).toNat)
  case atStart => exact ⟨0, 0, Nat.zero_le _, rfl, rfl⟩
  case round =>
    obtain ⟨k, q, hk, rfl, rfl⟩ := hrel
    by_cases hlt : k < ps.length
    · obtain ⟨b, off, rfl, _, hbs, c0, c1, c2, c3⟩ := hr.dl_at hlt
      obtain ⟨b', off', rfl, _, hbs', d0, d1, d2, d3⟩ := hr'.dl_at hlt
      unfold encStr at c0 d0
      generalize ps[k].1 = s1 at *
      generalize ps[k].2.1 = s2 at *
      generalize ps[k].2.2.1 = s3 at *
      generalize ps[k].2.2.2 = s4 at *
      go_wp2_with fail
      go_quiet (fail)
      go_wp2_with fail
      go_roundw
      case rel => exact ⟨k + 1, _, by omega, by go_num, rfl⟩
      case measure => simp [intOf]; omega
    · go_wp2_with fail
      go_ret
      exact ⟨rfl, _, rfl⟩
def poE (segs : List (List UInt8)) (atts : List Att) (live : List Int) : Int := firstE [histF segs atts, splF segs.length live]
set_option maxHeartbeats 4000000 in
set_option maxRecDepth 100000 in
theorem Possible_err (SA TA B : Option Addr) (c d cB lo lo2 : Nat) (live : List Int) (segs : List (List UInt8)) (atts : List Att) (w : World) (hh : Hist w lo SA TA segs atts) (hz : HistSz segs atts c) (hrL : Row w lo2 1 B live.length (ints live)) (hl9 : live.length ≤ 1000000000) (hf : poE segs atts live ≠ 0) :
    Calls Tryz.prog 31 #[.agg #[.slice SA segs.length c, .slice TA atts.length d], .slice B live.length cB] w fun e w' => e = .returned (.tuple #[.int .i64 0, .bool false, .int .i64 (poE segs atts live)]) ∧ Below w.heap.size w w' := by
  have HE : Hid (firstE [histF segs atts, splF segs.length live] = poE segs atts live) := Lib.hid rfl
  have d5 : (poE segs atts live != 0) = true := by simpa using hf
  clear hf
  have h9 := hz.h9
  go_enter Tryz.func31, Tryz.ntmps31
  go_upto_region 1 with (fail)
  have hx : Below w.heap.size w (w.alloc (.cells #[.slice SA segs.length c, .slice TA atts.length d] 29)) := (Below.refl _ _).alloc (Nat.le_refl _) _
  have hk : Blk (w.alloc (.cells #[.slice SA segs.length c, .slice TA atts.length d] 29)) w.heap.size 29 #[.slice SA segs.length c, .slice TA atts.length d] := Blk.new _ _ _
  have hh := hh.alloc (.cells #[.slice SA segs.length c, .slice TA atts.length d] 29)
  have hrL := hrL.alloc (.cells #[.slice SA segs.length c, .slice TA atts.length d] 29)
  generalize w.alloc (.cells #[.slice SA segs.length c, .slice TA atts.length d] 29) = w0 at *
  obtain ⟨q0, q1⟩ := hk.two_
  have zk := hk.lt
  go_region_held3 (fun w' => w'.cell? ⟨w.heap.size, 0, none⟩ = some (.slice SA segs.length c) ∧ w'.cell? ⟨w.heap.size, 1, none⟩ = some (.slice TA atts.length d)) (first | exact ⟨q0, q1⟩ | exact ⟨q5, q6⟩ | exact ⟨cell_al q5 _, cell_al q6 _⟩)
    (first
    | (go_at_call 10; refine (checkHistory_any SA TA c d _ segs atts _ (by first | exact hh | exact hh.below (Below.refl _ _).drew) hz.hc hz.h9 hz.h8 hz.h7 hz.h6).mono ?_; rintro e w5 ⟨rfl, hb5⟩; have q5 := (hb5.cell zk).trans q0; have q6 := (hb5.cell zk).trans q1)
    | (go_at_call 59; refine (splitsFault_any segs.length B _ _ live _ (by first | exact hrL | exact hrL.drew | exact hrL.drewN 1 | exact hrL.drew.below hb5 | exact (hrL.drewN 1).below hb5) h9 hl9).mono ?_; rintro e w6 ⟨rfl, rfl⟩)
    | (go_at_call 72; refine (first_any _ _ 0 [histF segs atts, splF segs.length live] _ (by first | exact row_new' _ (by first | rfl | simp) (by first | omega | (simp; omega)) rfl | exact row_newN _ _ (by first | rfl | simp) (by first | omega | (simp; omega)) rfl | exact row_newD _ (by first | rfl | simp) (by first | omega | (simp; omega)) rfl) (by simp)).mono ?_; rintro e w7 ⟨rfl, rfl⟩))
  all_goals
    have hx6 : Below w.heap.size w w5 := by first | exact below_up hx hb5 | exact below_up hx.drew hb5
    have hz6 := hx6.size
    rw [HE.out]
    go_wp2_with fail
    go_returns
    exact ⟨rfl, (by repeat (first | exact hx6 | refine Below.alloc ?_ (by first | omega | (simp; omega)) _ | refine below_drewN' ?_ _ | refine Below.drew ?_))⟩
/-- The least time with which one can finish, as the reference says it. -/
def pVR (segs : List (List UInt8)) (atts : List Att) (live : List Int) : Int := if lvV (stepsA atts) segs.length live.length < 0 ∨ live.length = 0 then lvV (stepsA atts) segs.length live.length else lastT (0, live) + lvV (stepsA atts) segs.length live.length
theorem pVR_law {segs : List (List UInt8)} {atts : List Att} {live : List Int} (hl : SplOk segs.length live) : possB segs atts live = decide (0 ≤ pVR segs atts live) ∧ possN segs atts live = max (pVR segs atts live) 0 := by
  unfold possB possN pVR
  generalize lvV (stepsA atts) segs.length live.length = v
  have hlast : 0 ≤ lastT (0, live) := by
    unfold lastT
    simp only
    rcases Nat.eq_zero_or_pos live.length with h | h
    · rw [List.getD_eq_getElem?_getD, List.getElem?_eq_none (by omega)]; exact Int.le_refl _
    · rw [getD_is (by omega)]; exact (hl.bd _ _).1
  by_cases h1 : v < 0
  · rw [if_pos (.inl h1), if_pos h1]
    exact ⟨rfl, by omega⟩
  · by_cases h2 : live.length = 0
    · rw [if_pos (.inr h2), if_neg h1, if_pos h2]
      exact ⟨rfl, by omega⟩
    · rw [if_neg (fun h => h.elim h1 h2), if_neg h1, if_neg h2]
      exact ⟨by rw [decide_eq_true (by omega), decide_eq_true (by omega)], by omega⟩
set_option maxHeartbeats 2000000 in
theorem possibleOf_ok (SA TA B : Option Addr) (c d cB lo lo2 : Nat) (live : List Int) (segs : List (List UInt8)) (atts : List Att) (w : World) (hh : Hist w lo SA TA segs atts) (hok : HistOk segs atts) (hrL : Row w lo2 1 B live.length (ints live)) (hls : SplOk segs.length live) :
    Calls Tryz.prog 43 #[.agg #[.slice SA segs.length c, .slice TA atts.length d], .slice B live.length cB] w fun e w' => e = .returned (.int .i64 (pVR segs atts live)) ∧ Below w.heap.size w w' := by
  have HO := Lib.hid hok
  have HL := Lib.hid hls
  have n2 := hok.n2
  have hlen := hls.len
  have HP : Hid (pVR segs atts live = if lvV (stepsA atts) segs.length live.length < 0 ∨ live.length = 0 then lvV (stepsA atts) segs.length live.length else lastT (0, live) + lvV (stepsA atts) segs.length live.length) := Lib.hid rfl
  have g1 := lvV_ge (stepsA_fwd hok).1 live.length (by omega)
  have g2 := lvV_le (stepsA_fwd hok).1 (stepsA_fwd hok).2.2 (segs.length - live.length) live.length rfl (by omega)
  clear hok hls
  go_enter Tryz.func43, Tryz.ntmps43
  go_wp2_with fail
  have hx : Below w.heap.size w (w.alloc (.cells #[.slice SA segs.length c, .slice TA atts.length d] 29)) := (Below.refl _ _).alloc (Nat.le_refl _) _
  have hh := hh.alloc (.cells #[.slice SA segs.length c, .slice TA atts.length d] 29)
  have hrL := hrL.alloc (.cells #[.slice SA segs.length c, .slice TA atts.length d] 29)
  generalize w.alloc (.cells #[.slice SA segs.length c, .slice TA atts.length d] 29) = w0 at *
  refine (leastFrom_ok SA TA c d _ live.length segs atts _ hh HO.out hlen).mono ?_
  rintro e w1 ⟨rfl, hb⟩
  have hx := below_up hx hb
  have hrL := hrL.below hb
  generalize lvV (stepsA atts) segs.length live.length = v at *
  by_cases h1 : v < 0
  · have HN : Hid (pVR segs atts live = v) := Lib.hid (by rw [HP.out, if_pos (.inl h1)])
    have d1 : decide (v < 0) = true := decide_eq_true h1
    clear h1
    go_wp2_with fail
    go_ret
    exact ⟨ret_int' HN.out.symm, hx⟩
  · have d1 : decide (v < 0) = false := decide_eq_false h1
    by_cases h2 : live.length = 0
    · have HN : Hid (pVR segs atts live = v) := Lib.hid (by rw [HP.out, if_pos (.inr h2)])
      have d2 : ((live.length : Int) == 0) = true := by rw [beq_iff_eq]; omega
      clear h1 h2
      go_wp2_with fail
      go_ret
      exact ⟨ret_int' HN.out.symm, hx⟩
    · have d2 : ((live.length : Int) == 0) = false := by rw [beq_eq_false_iff_ne]; omega
      obtain ⟨l, hl⟩ : ∃ l, l + 1 = live.length := ⟨live.length - 1, by omega⟩
      have hl1 : l < live.length := by omega
      obtain ⟨b5, o5, rfl, _, zb5, x5⟩ := hrL.int_at hl1
      have bd := HL.out.bd l hl1
      have HN : Hid (pVR segs atts live = live[l] + v) := Lib.hid (by
        rw [HP.out, if_neg (fun h => h.elim h1 h2)]
        congr 1
        unfold lastT
        have : live.length - 1 = l := by omega
        simp only [this]
        exact getD_is hl1)
      have wl : IntKind.i64.wrap ((live.length : Int) - 1) = (l : Int) := by rw [IntWalk.i64_in _ ⟨by omega, by omega⟩]; omega
      have g3 : v ≤ 60000000000 := by omega
      generalize live[l] = x at *
      have wx : IntKind.i64.wrap (x + v) = x + v := IntWalk.i64_in _ (by omega)
      clear h1 h2
      go_wp2_with fail
      go_ret
      exact ⟨ret_int' HN.out.symm, hx⟩
end Go.Proofs.YtagghmfhfboejaaGreatDoor
