/- Texts of this seat, laid together: Mu Eg. -/
import Derived.Handy
import Derived.Test.YtapjahbflhingaaGreatDoorBu51
import Derived.Test.YtapjahbflhingaaGreatDoorBu56
import Derived.Test.YtapjahbflhingaaGreatDoorBu27
import Derived.Test.YtapjahbflhingaaGreatDoorBu23
import Derived.Test.YtapjahbflhingaaGreatDoorBu10
import Derived.Test.YtapjahbflhingaaGreatDoorBu57
import Derived.Test.YtapjahbflhingaaGreatDoorBu48
/- The walk of segment.Chance at a right small history. -/
namespace Go.Proofs.YtapjahbflhingaaGreatDoor
set_option linter.unusedVariables false
set_option linter.unusedSimpArgs false
open Go.RowKit Go.Maps

theorem emptyC_any (A : Option Addr) (n c : Nat) (w : World) : Calls Tryz.prog 54 #[.slice A n c] w fun e w' => e = .returned (.bool (decide (n = 0))) ∧ w = w' := by
  have hd : ((n : Int) == 0) = decide (n = 0) := by
    by_cases h : n = 0
    · subst h; rfl
    · rw [decide_eq_false h]; simpa using h
  go_enter Tryz.func54, Tryz.ntmps54
  go_wp2_with fail
  go_ret
  exact ⟨by first | rfl | (rw [hd]) | simp [hd], rfl⟩
theorem indexFuncC_any (g base c : Nat) (rows : List (List Int)) (w : World) (hN : Nest 3 22 w base g rows) (h6 : rows.length ≤ 60) :
    Calls Tryz.prog 90 #[.slice (some ⟨g, 0, none⟩) rows.length c, .func (.func 54) #[] #[]] w fun e w' => ∃ r : Int, e = .returned (.int .i64 r) ∧ (decide (0 ≤ r) = !fullB rows) ∧ w = w' := by
  have hgl := hN.lt
  go_enter Tryz.func90, Tryz.ntmps90
  go_wp2_with fail
  go_loop [8] (fun i => ∃ k : Nat, k ≤ rows.length ∧ i = .int .i64 k ∧ Hid (fullB (rows.take k) = true)) (fun i => rows.length - (intOf i).toNat)
  case atStart => exact ⟨0, Nat.zero_le _, rfl, Lib.hid (by simp [fullB])⟩
  case round =>
    obtain ⟨k, hk, rfl, hno⟩ := hrel
    by_cases hlt : k < rows.length
    · obtain ⟨A1, c1, cg, _⟩ := hN.row hlt
      have HT : Hid (rows.take (k + 1) = rows.take k ++ [rows[k]]) := Lib.hid (List.take_succ_eq_append_getElem hlt)
      have HM := Lib.hid (List.getElem_mem hlt)
      generalize rows[k] = z at *
      go_wp2_with fail
      refine (emptyC_any _ _ _ _).mono ?_
      rintro e w' ⟨rfl, rfl⟩
      by_cases hp : z.length = 0
      · have HF : Hid (fullB rows = false) := Lib.hid (by
          unfold fullB
          rw [List.all_eq_false]
          exact ⟨z, HM.out, by rw [decide_eq_true_eq]; omega⟩)
        have d9 : decide (z.length = 0) = true := decide_eq_true hp
        clear hp HM
        rw [d9]
        go_wp2_with fail
        go_ret
        exact ⟨k, rfl, by rw [decide_eq_true (by omega), HF.out]; rfl, rfl⟩
      · have HF : Hid (fullB (rows.take (k + 1)) = true) := Lib.hid (by rw [HT.out, fullB_snoc, hno.out]; simp; omega)
        have d9 : decide (z.length = 0) = false := decide_eq_false hp
        clear hp HM
        rw [d9]
        go_wp2_with fail
        go_round
        case rel => exact ⟨k + 1, by omega, by go_num, HF⟩
        case measure => simp [intOf]; omega
    · have HF : Hid (fullB rows = true) := Lib.hid (by have := hno.out; rwa [List.take_of_length_le (by omega)] at this)
      go_wp2_with fail
      go_ret
      exact ⟨-1, rfl, by rw [HF.out]; rfl, rfl⟩
theorem containsFuncC_any (g base c : Nat) (rows : List (List Int)) (w : World) (hN : Nest 3 22 w base g rows) (h6 : rows.length ≤ 60) :
    Calls Tryz.prog 53 #[.slice (some ⟨g, 0, none⟩) rows.length c, .func (.func 54) #[] #[]] w fun e w' => e = .returned (.bool (!fullB rows)) ∧ w = w' := by
  go_enter Tryz.func53, Tryz.ntmps53
  go_wp2_with fail
  refine (indexFuncC_any g base c rows _ hN h6).mono ?_
  rintro e w' ⟨r, rfl, h, rfl⟩
  have H := Lib.hid h
  clear h
  go_wp2_with fail
  go_ret
  exact ⟨ret_bool' H.out, rfl⟩
theorem rowsQ_mem {segs : List (List UInt8)} {atts : List Att} (hok : HistOk segs atts) (n : Nat) : ∀ r ∈ rowsQ atts n, r.length ≤ atts.length ∧ ∀ x ∈ r, 0 ≤ x ∧ x ≤ 864000000 := by
  intro r hr
  obtain ⟨k, hk, rfl⟩ := List.mem_iff_getElem.1 hr
  rw [rowsQ_at]
  refine ⟨by rw [sorted_len]; exact rowA_len _ _, fun x hx => ?_⟩
  have := rowA_bd hok.spl k x (sorted_mem.1 hx)
  omega
/-- How many ways are good, and how many there are. -/
def goodN (atts : List Att) (n : Nat) (t : Int) : Int := upTo (n * 864000000) (cntL (rowsQ atts n)) t
def allN (atts : List Att) (n : Nat) : Int := waysN (rowsQ atts n)
theorem goodN_bd {segs : List (List UInt8)} {atts : List Att} (hok : HistOk segs atts) (n : Nat) (t : Int) : 0 ≤ goodN atts n t ∧ goodN atts n t ≤ allN atts n := by
  have h0 : ∀ s, 0 ≤ cntL (rowsQ atts n) s := fun s => (cntL_bd _ s).1
  refine ⟨upTo_nonneg h0, Int.le_trans (upTo_le_all h0) ?_⟩
  unfold allN
  rw [cnt_allF (M := 864000000) (fun r hr x hx => by have := (rowsQ_mem hok n r hr).2 x hx; omega) (by rw [rowsQ_len]; exact Nat.le_refl _)]
  exact Int.le_refl _
theorem allN_bd {segs : List (List UInt8)} {atts : List Att} (hok : HistOk segs atts) {n : Nat} (h4 : n ≤ 4) (h7 : atts.length ≤ 7) (hf : fullB (rowsQ atts n) = true) : 1 ≤ allN atts n ∧ allN atts n ≤ 2401 := by
  have h1 := waysN_small (rows := rowsQ atts n) (by rw [rowsQ_len]; exact h4) (fun r hr => Nat.le_trans (rowsQ_mem hok n r hr).1 h7) (rowsQ atts n).length
  have h2 := waysN_pos (rows := rowsQ atts n) (fun r hr => by simpa using List.all_eq_true.1 hf r hr)
  rw [List.take_length] at h1
  unfold allN
  omega

set_option maxHeartbeats 4000000 in
set_option maxRecDepth 100000 in
theorem Chance_arg (SA TA : Option Addr) (c d lo : Nat) (t : Int) (segs : List (List UInt8)) (atts : List Att) (w : World) (hh : Hist w lo SA TA segs atts) (hc : segs.length ≤ c) (hok : HistOk segs atts) (ht : t < 0 ∨ 864000000 < t) :
    Calls Tryz.prog 13 #[.agg #[.slice SA segs.length c, .slice TA atts.length d], .int .i64 t] w fun e w' => e = .returned (.tuple #[.agg #[.int .i64 0, .int .i64 0], .bool false, .int .i64 1]) ∧ Below w.heap.size w w' := by
  have n2 := hok.n2
  have m := hok.m
  have HO := Lib.hid hok
  have KEY : Hid (∀ s ∈ segs, s.length ≤ 1000000000) := Lib.hid (fun s hs => by
    obtain ⟨i, hi, rfl⟩ := List.mem_iff_getElem.1 hs
    have := hok.key i hi
    unfold keyB at this
    simp only [Bool.and_eq_true, decide_eq_true_eq] at this
    omega)
  have d0 : (decide (t < 0) || decide (864000000 < t)) = true := by simp; omega
  clear hok ht
  go_enter Tryz.func13, Tryz.ntmps13
  go_wp2_with fail
  have kR : Blk ((w.alloc (.cells #[.slice SA segs.length c, .slice TA atts.length d] 29)).alloc (.cells #[.int .i64 0, .int .i64 0] 41)) (w.heap.size + 1) 41 #[.int .i64 0, .int .i64 0] := by
    have := Blk.new (w.alloc (.cells #[.slice SA segs.length c, .slice TA atts.length d] 29)) 41 #[.int .i64 0, .int .i64 0]
    simpa using this
  have hx : Below w.heap.size w ((w.alloc (.cells #[.slice SA segs.length c, .slice TA atts.length d] 29)).alloc (.cells #[.int .i64 0, .int .i64 0] 41)) := ((Below.refl _ _).alloc (Nat.le_refl _) _).alloc (by simp) _
  have hh := (hh.alloc (.cells #[.slice SA segs.length c, .slice TA atts.length d] 29)).alloc (.cells #[.int .i64 0, .int .i64 0] 41)
  generalize (w.alloc (.cells #[.slice SA segs.length c, .slice TA atts.length d] 29)).alloc (.cells #[.int .i64 0, .int .i64 0] 41) = w0 at *
  refine (checkHistory_any SA TA c d _ segs atts _ hh hc (by omega) (by omega) (fun i h => by have := (HO.out.spl i h).len; omega) KEY.out).mono ?_
  rintro e w1 ⟨rfl, hb⟩
  rw [histF_zero HO.out]
  have kR := kR.below hb
  have hx := below_up hx hb
  clear hb
  obtain ⟨r0, r1⟩ := kR.two_
  have rz := kR.lt
  have rf0 := kR.thaw 0
  have rf1 := kR.thaw 1
  obtain ⟨z0, z1, z2⟩ := kR.two (.int .i64 0) (.int .i64 0)
  go_wp2_with fail
  refine (out_any _ _ _ _).mono ?_
  rintro e w2 ⟨rfl, rfl⟩
  rw [d0]
  have HB := Lib.hid (Below.setCell (Below.setCell hx (p := ⟨w.heap.size + 1, 0, none⟩) (by simp) (.int .i64 0)) (p := ⟨w.heap.size + 1, 1, none⟩) (by simp) (.int .i64 0))
  clear hx kR d0
  go_wp2_with fail
  refine bodyPost_ret (v := .tuple #[.agg #[.int .i64 0, .int .i64 0], .bool false, .int .i64 1]) (by simp [results, Tryz.results13, go_sem, z0, z1, z2]) rfl ?_
  exact ⟨rfl, HB.out⟩
/-- Chance where a row is empty. -/
theorem Chance_none (SA TA : Option Addr) (c d lo : Nat) (t : Int) (segs : List (List UInt8)) (atts : List Att) (w : World) (hh : Hist w lo SA TA segs atts) (hc : segs.length ≤ c) (hok : HistOk segs atts) (ht : 0 ≤ t ∧ t ≤ 864000000) (h4 : segs.length ≤ 4) (h7 : atts.length ≤ 7) (hf : fullB (rowsQ atts segs.length) = false) :
    Calls Tryz.prog 13 #[.agg #[.slice SA segs.length c, .slice TA atts.length d], .int .i64 t] w fun e w' => e = .returned (.tuple #[.agg #[.int .i64 0, .int .i64 0], .bool false, .int .i64 0]) ∧ Below w.heap.size w w' := by
  have n2 := hok.n2
  have m := hok.m
  have HO := Lib.hid hok
  have KEY : Hid (∀ s ∈ segs, s.length ≤ 1000000000) := Lib.hid (fun s hs => by
    obtain ⟨i, hi, rfl⟩ := List.mem_iff_getElem.1 hs
    have := hok.key i hi
    unfold keyB at this
    simp only [Bool.and_eq_true, decide_eq_true_eq] at this
    omega)
  have d0 : (decide (t < 0) || decide (864000000 < t)) = false := by simp; omega
  have HG := Lib.hid (goodN_bd hok segs.length t)
  have HAL := Lib.hid (fun h => allN_bd hok h4 h7 h)
  have HQ : Hid (∀ r ∈ rowsQ atts segs.length, ∀ x ∈ r, 0 ≤ x ∧ x ≤ 864000000) := Lib.hid (fun r hr => (rowsQ_mem hok segs.length r hr).2)
  have HW : Hid (∀ k, waysN ((rowsQ atts segs.length).take k) ≤ 2401) := Lib.hid (fun k => waysN_small (by rw [rowsQ_len]; exact h4) (fun r hr => Nat.le_trans (rowsQ_mem hok segs.length r hr).1 h7) k)
  clear hok ht
  go_enter Tryz.func13, Tryz.ntmps13
  go_wp2_with fail
  have kA : Blk ((w.alloc (.cells #[.slice SA segs.length c, .slice TA atts.length d] 29)).alloc (.cells #[.int .i64 0, .int .i64 0] 41)) w.heap.size 29 #[.slice SA segs.length c, .slice TA atts.length d] := (Blk.new _ _ _).alloc _
  have kR : Blk ((w.alloc (.cells #[.slice SA segs.length c, .slice TA atts.length d] 29)).alloc (.cells #[.int .i64 0, .int .i64 0] 41)) (w.heap.size + 1) 41 #[.int .i64 0, .int .i64 0] := by
    have := Blk.new (w.alloc (.cells #[.slice SA segs.length c, .slice TA atts.length d] 29)) 41 #[.int .i64 0, .int .i64 0]
    simpa using this
  have hx : Below w.heap.size w ((w.alloc (.cells #[.slice SA segs.length c, .slice TA atts.length d] 29)).alloc (.cells #[.int .i64 0, .int .i64 0] 41)) := ((Below.refl _ _).alloc (Nat.le_refl _) _).alloc (by simp) _
  have hh := (hh.alloc (.cells #[.slice SA segs.length c, .slice TA atts.length d] 29)).alloc (.cells #[.int .i64 0, .int .i64 0] 41)
  generalize (w.alloc (.cells #[.slice SA segs.length c, .slice TA atts.length d] 29)).alloc (.cells #[.int .i64 0, .int .i64 0] 41) = w0 at *
  refine (checkHistory_any SA TA c d _ segs atts _ hh hc (by omega) (by omega) (fun i h => by have := (HO.out.spl i h).len; omega) KEY.out).mono ?_
  rintro e w1 ⟨rfl, hb⟩
  rw [histF_zero HO.out]
  have kR := kR.below hb
  have kA := kA.below hb
  have hh := hh.below hb
  have hx := below_up hx hb
  clear hb
  obtain ⟨a0, a1⟩ := kA.two_
  have za := kA.lt
  go_wp2_with fail
  refine (out_any _ _ _ _).mono ?_
  rintro e w2 ⟨rfl, rfl⟩
  rw [d0]
  have d12 : decide ((12 : Int) < (segs.length : Int)) = false := by simp; omega
  go_wp2_with fail
  refine (rows_any _ _ _ _ _ _ segs atts _ kA hh HO.out).mono ?_
  rintro e w2 ⟨g, c2, rfl, hgb, hN, hb⟩
  have kR := kR.below hb
  have hx := below_up hx hb
  clear hb d12 a0 a1 za kA hh
  rw [rowsS_full] at hN
  have hql : segs.length = (rowsQ atts segs.length).length := (rowsQ_len _ _).symm
  have HQL := Lib.hid hql
  rw [show (Value.slice (some ⟨g, 0, none⟩) segs.length c2) = .slice (some ⟨g, 0, none⟩) (rowsQ atts segs.length).length c2 by rw [← hql]]
  have h6 : (rowsQ atts segs.length).length ≤ 4 := by omega
  clear hql
  go_wp2_with fail
  refine (containsFuncC_any g _ c2 _ _ hN (by omega)).mono ?_
  rintro e w3 ⟨rfl, rfl⟩
  rw [hf]
  obtain ⟨r0, r1⟩ := kR.two_
  have rz := kR.lt
  have rf0 := kR.thaw 0
  have rf1 := kR.thaw 1
  obtain ⟨z0, z1, z2⟩ := kR.two (.int .i64 0) (.int .i64 0)
  have HB := Lib.hid (Below.setCell (Below.setCell hx (p := ⟨w.heap.size + 1, 0, none⟩) (by simp) (.int .i64 0)) (p := ⟨w.heap.size + 1, 1, none⟩) (by simp) (.int .i64 0))
  clear hx kR d0 hN
  go_wp2_with fail
  refine bodyPost_ret (v := .tuple #[.agg #[.int .i64 0, .int .i64 0], .bool false, .int .i64 0]) (by simp [results, Tryz.results13, go_sem, z0, z1, z2]) rfl ?_
  exact ⟨rfl, HB.out⟩
set_option maxHeartbeats 4000000 in
set_option maxRecDepth 100000 in
theorem Chance_full (SA TA : Option Addr) (c d lo : Nat) (t : Int) (segs : List (List UInt8)) (atts : List Att) (w : World) (hh : Hist w lo SA TA segs atts) (hc : segs.length ≤ c) (hok : HistOk segs atts) (ht : 0 ≤ t ∧ t ≤ 864000000) (h4 : segs.length ≤ 4) (h7 : atts.length ≤ 7) (hf : fullB (rowsQ atts segs.length) = true) :
    Calls Tryz.prog 13 #[.agg #[.slice SA segs.length c, .slice TA atts.length d], .int .i64 t] w fun e w' => e = .returned (.tuple #[.agg #[.int .i64 (frN (goodN atts segs.length t) (allN atts segs.length)), .int .i64 (frD (goodN atts segs.length t) (allN atts segs.length))], .bool true, .int .i64 0]) ∧ Below w.heap.size w w' := by
  have n2 := hok.n2
  have m := hok.m
  have HO := Lib.hid hok
  have KEY : Hid (∀ s ∈ segs, s.length ≤ 1000000000) := Lib.hid (fun s hs => by
    obtain ⟨i, hi, rfl⟩ := List.mem_iff_getElem.1 hs
    have := hok.key i hi
    unfold keyB at this
    simp only [Bool.and_eq_true, decide_eq_true_eq] at this
    omega)
  have d0 : (decide (t < 0) || decide (864000000 < t)) = false := by simp; omega
  have HG := Lib.hid (goodN_bd hok segs.length t)
  have HAL := Lib.hid (fun h => allN_bd hok h4 h7 h)
  have HQ : Hid (∀ r ∈ rowsQ atts segs.length, ∀ x ∈ r, 0 ≤ x ∧ x ≤ 864000000) := Lib.hid (fun r hr => (rowsQ_mem hok segs.length r hr).2)
  have HW : Hid (∀ k, waysN ((rowsQ atts segs.length).take k) ≤ 2401) := Lib.hid (fun k => waysN_small (by rw [rowsQ_len]; exact h4) (fun r hr => Nat.le_trans (rowsQ_mem hok segs.length r hr).1 h7) k)
  clear hok ht
  go_enter Tryz.func13, Tryz.ntmps13
  go_wp2_with fail
  have kA : Blk ((w.alloc (.cells #[.slice SA segs.length c, .slice TA atts.length d] 29)).alloc (.cells #[.int .i64 0, .int .i64 0] 41)) w.heap.size 29 #[.slice SA segs.length c, .slice TA atts.length d] := (Blk.new _ _ _).alloc _
  have kR : Blk ((w.alloc (.cells #[.slice SA segs.length c, .slice TA atts.length d] 29)).alloc (.cells #[.int .i64 0, .int .i64 0] 41)) (w.heap.size + 1) 41 #[.int .i64 0, .int .i64 0] := by
    have := Blk.new (w.alloc (.cells #[.slice SA segs.length c, .slice TA atts.length d] 29)) 41 #[.int .i64 0, .int .i64 0]
    simpa using this
  have hx : Below w.heap.size w ((w.alloc (.cells #[.slice SA segs.length c, .slice TA atts.length d] 29)).alloc (.cells #[.int .i64 0, .int .i64 0] 41)) := ((Below.refl _ _).alloc (Nat.le_refl _) _).alloc (by simp) _
  have hh := (hh.alloc (.cells #[.slice SA segs.length c, .slice TA atts.length d] 29)).alloc (.cells #[.int .i64 0, .int .i64 0] 41)
  generalize (w.alloc (.cells #[.slice SA segs.length c, .slice TA atts.length d] 29)).alloc (.cells #[.int .i64 0, .int .i64 0] 41) = w0 at *
  refine (checkHistory_any SA TA c d _ segs atts _ hh hc (by omega) (by omega) (fun i h => by have := (HO.out.spl i h).len; omega) KEY.out).mono ?_
  rintro e w1 ⟨rfl, hb⟩
  rw [histF_zero HO.out]
  have kR := kR.below hb
  have kA := kA.below hb
  have hh := hh.below hb
  have hx := below_up hx hb
  clear hb
  obtain ⟨a0, a1⟩ := kA.two_
  have za := kA.lt
  go_wp2_with fail
  refine (out_any _ _ _ _).mono ?_
  rintro e w2 ⟨rfl, rfl⟩
  rw [d0]
  have d12 : decide ((12 : Int) < (segs.length : Int)) = false := by simp; omega
  go_wp2_with fail
  refine (rows_any _ _ _ _ _ _ segs atts _ kA hh HO.out).mono ?_
  rintro e w2 ⟨g, c2, rfl, hgb, hN, hb⟩
  have kR := kR.below hb
  have hx := below_up hx hb
  clear hb d12 a0 a1 za kA hh
  rw [rowsS_full] at hN
  have hql : segs.length = (rowsQ atts segs.length).length := (rowsQ_len _ _).symm
  have HQL := Lib.hid hql
  rw [show (Value.slice (some ⟨g, 0, none⟩) segs.length c2) = .slice (some ⟨g, 0, none⟩) (rowsQ atts segs.length).length c2 by rw [← hql]]
  have h6 : (rowsQ atts segs.length).length ≤ 4 := by omega
  clear hql
  go_wp2_with fail
  refine (containsFuncC_any g _ c2 _ _ hN (by omega)).mono ?_
  rintro e w3 ⟨rfl, rfl⟩
  rw [hf]
  have HGD : Hid (goodN atts segs.length t = upTo (segs.length * 864000000) (cntL (rowsQ atts segs.length)) t) := Lib.hid rfl
  have HAD : Hid (allN atts segs.length = waysN (rowsQ atts segs.length)) := Lib.hid rfl
  generalize hBn : segs.length * 864000000 = Bn at HGD
  have HBN := Lib.hid hBn
  clear hBn
  have hal := HAL.out hf
  have hgb := HG.out
  generalize hgn : goodN atts segs.length t = gn at *
  generalize han : allN atts segs.length = an at *
  have HGN := Lib.hid hgn
  have HAN := Lib.hid han
  clear hgn han
  have hgl := hN.lt
  have HFB := Lib.hid hf
  clear d0 hf
  go_wp2_with fail
  go_loopw [9, 35] (fun v i wr => ∃ k : Nat, k ≤ (rowsQ atts segs.length).length ∧ i = .int .i64 k ∧ v = .int .i64 (waysN ((rowsQ atts segs.length).take k)) ∧ wr = w2) (fun _ i _ => (rowsQ atts segs.length).length - (intOf i).toNat)
  case atStart => exact ⟨0, Nat.zero_le _, rfl, rfl, rfl⟩
  case round =>
    obtain ⟨k, hk, rfl, rfl, rfl⟩ := hrel
    by_cases hlt : k < (rowsQ atts segs.length).length
    · obtain ⟨A1, c1, cg, _⟩ := hN.row hlt
      have HS : Hid (waysN ((rowsQ atts segs.length).take (k + 1)) = waysN ((rowsQ atts segs.length).take k) * (rowsQ atts segs.length)[k].length) := Lib.hid (by rw [List.take_succ_eq_append_getElem hlt, waysN_snoc])
      have hw1 := HW.out (k + 1)
      rw [HS.out] at hw1
      generalize (rowsQ atts segs.length)[k].length = L at *
      generalize waysN ((rowsQ atts segs.length).take k) = W at *
      have wm : IntKind.i64.wrap ((W : Int) * (L : Int)) = ((W * L : Nat) : Int) := by rw [← Int.natCast_mul]; exact IntWalk.i64_in _ (by omega)
      have d6 : decide ((1000000 : Int) < ((W * L : Nat) : Int)) = false := by simp only [decide_eq_false_iff_not]; omega
      go_wp2_with fail
      go_roundw
      case rel => exact ⟨k + 1, by omega, by go_num, by rw [HS.out, Int.natCast_mul], trivial⟩
      case measure => simp [intOf]; omega
    · have hkl : k = (rowsQ atts segs.length).length := by omega
      subst hkl
      rw [List.take_length, ← HAD.out]
      obtain ⟨W2, hW2⟩ : ∃ W, W = wr := ⟨_, rfl⟩
      subst hW2
      go_wp2_with fail
      refine (sums_any g _ c2 _ _ hN (by omega) HQ.out (fun k _ => by have := HW.out k; omega)).mono ?_
      rintro e w4 ⟨b, nb, rfl, hM, hb, hnb, hbb⟩
      have kR := kR.below hb
      have hx := below_up hx hb
      clear hb hN
      have hB9 : (((rowsQ atts segs.length).length : Nat) : Int) * 864000000 = (Bn : Int) := by rw [HQL.out.symm, ← HBN.out]; omega
      rw [hB9] at hM
      clear hB9
      generalize hfq : cntL (rowsQ atts segs.length) = f at *
      have HNN : Hid (∀ s, 0 ≤ f s) := Lib.hid (fun s => by rw [← hfq]; exact (cntL_bd _ s).1)
      clear hfq
      have hxz := hx.size
      have hr4 := kR.lt
      go_wp2_with (first
        | (at_range; refine wpList_rangeF rfl _ rfl rfl hM ?_; intro w5 left0 cnt0 hrg0 hcn0 hl0 hg0 hs0)
        | fail)
      go_frame
      have kR5 : Blk w5 (w.heap.size + 1) 41 #[.int .i64 0, .int .i64 0] := (hg0.block _ kR.lt (fun e => by cases e)).trans kR
      have hx5 : Below w.heap.size w w5 := hx.grown hg0 hxz (fun k hk => by cases hk)
      have HU0 : Hid (upTo Bn (mk_ f left0) t = 0) := Lib.hid (upTo_start hl0 t)
      clear kR hx hM hg0 hl0
      go_loopw [12] (fun v wq => ∃ (left : Int → Bool) (cnt : Nat), MapR wq b w4.heap.size nb (Bn : Int) f left cnt ∧ v = .int .i64 (upTo Bn (mk_ f left) t) ∧ Below w4.heap.size w5 wq ∧ Blk wq (w.heap.size + 1) 41 #[.int .i64 0, .int .i64 0] ∧ Below w.heap.size w wq) (fun _ wq => wq.rangeLeft b w4.heap.size)
      case atStart => exact ⟨left0, cnt0, hrg0, by rw [HU0.out], Below.refl _ _, kR5, hx5⟩
      case round =>
        clear hrg0 hcn0 kR5 hx5 HU0
        obtain ⟨left, cnt, hrg, rfl, hby, kR, hx⟩ := hrel
        have HUB : Hid (0 ≤ upTo Bn (mk_ f left) t ∧ upTo Bn (mk_ f left) t ≤ gn) := Lib.hid (by
          have h1 : ∀ s, 0 ≤ mk_ f left s := fun s => by unfold mk_; have := HNN.out s; split <;> omega
          have h2 : ∀ s, mk_ f left s ≤ f s := fun s => by unfold mk_; have := HNN.out s; split <;> omega
          refine ⟨upTo_nonneg h1, ?_⟩
          rw [HGD.out]
          exact upTo_mono h1 h2 (Int.le_refl _))
        go_wp2_with (first
          | (at_next; refine wpList_nextF rfl _ rfl rfl hrg ?_ ?_)
          | fail)
        · intro hl0
          have HE : Hid (upTo Bn (mk_ f left) t = gn) := Lib.hid (by rw [HGD.out]; exact upTo_end hl0 t)
          rw [HE.out]
          obtain ⟨r0, r1⟩ := kR.two_
          have rz := kR.lt
          go_wp2_with fail
          refine (fraction_any gn an _ (by omega) (by omega) (by omega) (by omega)).mono ?_
          rintro e w6 ⟨rfl, hb⟩
          have kR := kR.below hb
          have hx := below_up hx hb
          generalize hfn : frN gn an = fn at *
          generalize hfd : frD gn an = fd at *
          have HFN := Lib.hid hfn
          have HFD := Lib.hid hfd
          clear hfn hfd
          clear hb r0 r1 rz
          obtain ⟨r0, r1⟩ := kR.two_
          have rz := kR.lt
          have rf0 := kR.thaw 0
          have rf1 := kR.thaw 1
          obtain ⟨z0, z1, z2⟩ := kR.two (.int .i64 fn) (.int .i64 fd)
          have HB := Lib.hid (Below.setCell (Below.setCell hx (p := ⟨w.heap.size + 1, 0, none⟩) (by simp) (.int .i64 fn)) (p := ⟨w.heap.size + 1, 1, none⟩) (by simp) (.int .i64 fd))
          clear hx kR
          go_wp2_with fail
          refine bodyPost_ret (v := .tuple #[.agg #[.int .i64 fn, .int .i64 fd], .bool true, .int .i64 0]) (by simp [results, Tryz.results13, go_sem, z0, z1, z2]) rfl ?_
          exact ⟨by rw [HGN.out, HAN.out, HFN.out, HFD.out], HB.out⟩
        · intro x w6 cnt1 hx1 hfx hx0 hxB hlx hrg1 hlt1 hg1 hs1 hen
          have HST := Lib.hid (upTo_step (B := Bn) (f := f) (t := t) hlx hx0 hxB)
          have hb6 : Below w4.heap.size w5 w6 := hby.grown hg1 (Nat.le_trans (by omega) hby.size) (fun k hk => by injection hk with hk; omega)
          have kR6 : Blk w6 (w.heap.size + 1) 41 #[.int .i64 0, .int .i64 0] := (hg1.block _ kR.lt (fun e => by injection e with e; have := kR.lt; omega)).trans kR
          have hx6 : Below w.heap.size w w6 := hx.grown hg1 hx.size (fun k hk => by injection hk with hk; omega)
          have hub := HUB.out
          have hfb : f x ≤ gn ∨ ¬ x ≤ t := by
            by_cases hxt : x ≤ t
            · left
              have h1 : ∀ s, 0 ≤ mk_ f (fun y => left y && !decide (y = x)) s := fun s => by unfold mk_; have := HNN.out s; split <;> omega
              have h2 : ∀ s, mk_ f (fun y => left y && !decide (y = x)) s ≤ f s := fun s => by unfold mk_; have := HNN.out s; split <;> omega
              have h3 := upTo_mono (B := Bn) (t := t) (u := t) h1 h2 (Int.le_refl _)
              rw [HST.out, if_pos hxt, ← HGD.out] at h3
              omega
            · exact .inr hxt
          generalize upTo Bn (mk_ f left) t = u at *
          by_cases hxt : x ≤ t
          · have dt : decide (x ≤ t) = true := by simpa using hxt
            have wu : IntKind.i64.wrap (u + f x) = u + f x := by
              have := HNN.out x
              exact IntWalk.i64_in _ (by omega)
            have HF : Hid (upTo Bn (mk_ f (fun y => left y && !decide (y = x))) t = u + f x) := Lib.hid (by rw [HST.out, if_pos hxt])
            clear hxt hfb hub HUB HST
            go_wp2_with fail
            go_roundw
            case rel => exact ⟨_, cnt1, hrg1, by rw [HF.out], hb6, kR6, hx6⟩
            case measure => rw [hrg1.left_eq, hrg.left_eq]; exact hlt1
          · have dt : decide (x ≤ t) = false := by simpa using hxt
            have HF : Hid (upTo Bn (mk_ f (fun y => left y && !decide (y = x))) t = u) := Lib.hid (by rw [HST.out, if_neg hxt]; omega)
            clear hxt hfb hub HUB HST
            go_wp2_with fail
            go_roundw
            case rel => exact ⟨_, cnt1, hrg1, by rw [HF.out], hb6, kR6, hx6⟩
            case measure => rw [hrg1.left_eq, hrg.left_eq]; exact hlt1
end Go.Proofs.YtapjahbflhingaaGreatDoor
/- Plain laws of chances: more time makes it no less likely, and with all of it it is sure; right histories that are drawn are short. No program in sight. -/
namespace Go.Proofs.YtapjahbflhingaaGreatDoor
set_option linter.unusedVariables false
set_option linter.unusedSimpArgs false
open Go.RowKit

theorem fr_leN (X Y D : Nat) (hxy : X ≤ Y) (hd : 1 ≤ D) : (X / Nat.gcd X D) * (D / Nat.gcd Y D) ≤ (Y / Nat.gcd Y D) * (D / Nat.gcd X D) := by
  have g1 : 0 < Nat.gcd X D := Nat.gcd_pos_of_pos_right _ (by omega)
  have g2 : 0 < Nat.gcd Y D := Nat.gcd_pos_of_pos_right _ (by omega)
  have e1 : X / Nat.gcd X D * Nat.gcd X D = X := Nat.div_mul_cancel (Nat.gcd_dvd_left _ _)
  have e2 : D / Nat.gcd X D * Nat.gcd X D = D := Nat.div_mul_cancel (Nat.gcd_dvd_right _ _)
  have e3 : Y / Nat.gcd Y D * Nat.gcd Y D = Y := Nat.div_mul_cancel (Nat.gcd_dvd_left _ _)
  have e4 : D / Nat.gcd Y D * Nat.gcd Y D = D := Nat.div_mul_cancel (Nat.gcd_dvd_right _ _)
  refine Nat.le_of_mul_le_mul_right ?_ (Nat.mul_pos g1 g2)
  generalize X / Nat.gcd X D = a at *
  generalize D / Nat.gcd X D = b at *
  generalize Y / Nat.gcd Y D = a' at *
  generalize D / Nat.gcd Y D = b' at *
  generalize Nat.gcd X D = u at *
  generalize Nat.gcd Y D = v at *
  have h1 : a * b' * (u * v) = (a * u) * (b' * v) := by ac_rfl
  have h2 : a' * b * (u * v) = (a' * v) * (b * u) := by ac_rfl
  rw [h1, h2, e1, e4, e3, e2]
  exact Nat.mul_le_mul_right _ hxy
theorem fr_le {x y d : Int} (h0 : 0 ≤ x) (hxy : x ≤ y) (hd : 1 ≤ d) : frN x d * frD y d ≤ frN y d * frD x d := by
  obtain ⟨X, rfl⟩ := Int.eq_ofNat_of_zero_le h0
  obtain ⟨Y, rfl⟩ := Int.eq_ofNat_of_zero_le (show 0 ≤ y by omega)
  obtain ⟨D, rfl⟩ := Int.eq_ofNat_of_zero_le (show 0 ≤ d by omega)
  have := fr_leN X Y D (by omega) (by omega)
  rw [(fr_facts X D (by omega)).1, (fr_facts X D (by omega)).2.1, (fr_facts Y D (by omega)).1, (fr_facts Y D (by omega)).2.1]
  exact_mod_cast this
theorem fr_bd {x d : Int} (h0 : 0 ≤ x) (hd : 1 ≤ d) : 0 ≤ frN x d ∧ frN x d ≤ x ∧ 0 ≤ frD x d ∧ frD x d ≤ d := by
  obtain ⟨X, rfl⟩ := Int.eq_ofNat_of_zero_le h0
  obtain ⟨D, rfl⟩ := Int.eq_ofNat_of_zero_le (show 0 ≤ d by omega)
  obtain ⟨e1, e2, g1, a1, a2, b1, b2⟩ := fr_facts X D (by omega)
  rw [e1, e2]
  exact ⟨a1, a2, b1, b2⟩
theorem fr_one {d : Int} (hd : 1 ≤ d) : frN d d = 1 ∧ frD d d = 1 := by
  obtain ⟨D, rfl⟩ := Int.eq_ofNat_of_zero_le (show 0 ≤ d by omega)
  have e1 := (fr_facts D D (by omega)).1
  have e2 := (fr_facts D D (by omega)).2.1
  rw [Nat.gcd_self] at e1 e2
  rw [e1, e2]
  exact ⟨Int.ediv_self (by omega), Int.ediv_self (by omega)⟩
theorem fr_2401 {g a : Int} (h0 : 0 ≤ g) (h1 : g ≤ a) (h2 : 1 ≤ a) (h3 : a ≤ 2401) : 0 ≤ frN g a ∧ frN g a ≤ 2401 ∧ 0 ≤ frD g a ∧ frD g a ≤ 2401 := by
  have := fr_bd (x := g) (d := a) h0 h2
  omega
/-! ### what is drawn is short -/
def Short (atts : List Att) : Prop := ∀ a ∈ atts, ∀ x ∈ a.2, x ≤ 400 ∨ x = 864000001
theorem hsL_short (L : List Int) {n : Nat} (hn : n ≤ 4) (K : Nat) : ∀ j, Short (hsL L n K j).2.1
  | 0 => fun a h => by cases h
  | j + 1 => fun a h => by
    simp only [hsL] at h
    rcases List.mem_append.1 h with h | h
    · exact hsL_short L hn K j a h
    · simp only [List.mem_singleton] at h
      subst h
      intro x hx
      have := (trF_bd L ((hsL L n K j).2.2 + 1) (many := n) (by omega)).2.2 x hx
      omega
theorem hsNo_short (L : List Int) {atts : List Att} (m K : Nat) (h : Short atts) : Short (hsNo L atts m K).1 := by
  unfold hsNo
  split
  · exact h
  · split
    · intro a ha x hx
      rcases List.mem_or_eq_of_mem_set ha with h1 | h1
      · exact h a h1 x hx
      · subst h1
        by_cases hj : (nx L (K + 1) m).toNat < atts.length
        · have e : atts.getD (nx L (K + 1) m).toNat (0, []) = atts[(nx L (K + 1) m).toNat] := by rw [List.getD_eq_getElem?_getD, List.getElem?_eq_getElem hj]; rfl
          rw [e] at hx
          exact h _ (List.getElem_mem hj) x hx
        · have e : atts.getD (nx L (K + 1) m).toNat (0, []) = (0, []) := by rw [List.getD_eq_getElem?_getD, List.getElem?_eq_none (by omega)]; rfl
          rw [e] at hx
          cases hx
    · exact h
theorem hsF_short (L : List Int) (k : Nat) : Short (hsF L k).2.1 := by
  have h := rg_bd L k (lo := 1) (hi := 4) (by omega) (by omega) (by omega)
  unfold hsF
  exact hsNo_short L _ _ (hsL_short L (by omega) _ _)
theorem rhF_short (L : List Int) : ∀ t k, Short (rhF L t k).2.1
  | 0, k => fun a h => by cases h
  | t + 1, k => by
    unfold rhF
    split
    · exact hsF_short L k
    · exact rhF_short L t _
theorem tm_short {n : Nat} {l : List Int} (h : SplOk n l) (hs : ∀ x ∈ l, x ≤ 400 ∨ x = 864000001) (k : Nat) : tmA l k ≤ 400 := by
  have hb : ∀ i (hi : i < l.length), l[i] ≤ 400 := fun i hi => by
    have h1 := h.bd i hi
    have h2 := hs _ (List.getElem_mem hi)
    omega
  rcases Nat.lt_or_ge k l.length with hk | hk
  · by_cases h0 : l[k] = 0
    · rw [tmA_zero hk h0]; omega
    · have b := hb k hk
      rcases k with _ | k
      · rw [tmA_first hk]; exact b
      · by_cases h1 : l[k] = 0
        · rw [tmA_gap hk h1]; omega
        · rw [tmA_diff hk h1 h0]
          have := h.bd k (by omega)
          omega
  · have : tmA l k = 0 := by
      unfold tmA
      rw [List.getD_eq_getElem?_getD, List.getElem?_eq_none (by omega)]
      simp
    omega
theorem good_sure {segs : List (List UInt8)} {atts : List Att} (hok : HistOk segs atts) (h4 : segs.length ≤ 4) (hs : Short atts) : goodN atts segs.length 864000000 = allN atts segs.length := by
  have hq : ∀ r ∈ rowsQ atts segs.length, ∀ x ∈ r, 0 ≤ x ∧ x ≤ ((400 : Nat) : Int) := by
    intro r hr
    obtain ⟨k, hk, rfl⟩ := List.mem_iff_getElem.1 hr
    rw [rowsQ_at]
    intro x hx
    have hx := sorted_mem.1 hx
    have h1 := rowA_bd hok.spl k x hx
    obtain ⟨a, ha, hx⟩ := List.mem_flatMap.1 hx
    obtain ⟨i, hi, rfl⟩ := List.mem_iff_getElem.1 ha
    split at hx
    · simp only [List.mem_singleton] at hx
      have := tm_short (hok.spl i hi) (hs _ (List.getElem_mem hi)) k
      omega
    · cases hx
  unfold goodN allN
  exact upTo_sure hq (by rw [rowsQ_len]; omega) (by rw [rowsQ_len]; omega)
theorem good_mono {atts : List Att} (n : Nat) {t u : Int} (h : t ≤ u) : goodN atts n t ≤ goodN atts n u := upTo_mono (fun s => (cntL_bd _ s).1) (fun _ => Int.le_refl _) h
end Go.Proofs.YtapjahbflhingaaGreatDoor
