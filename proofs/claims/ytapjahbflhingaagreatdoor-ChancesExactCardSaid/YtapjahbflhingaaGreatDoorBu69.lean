/- Texts of this seat, laid together: Fi Lo. -/
import Derived.Handy
import Derived.Test.YtapjahbflhingaaGreatDoorBu63
import Derived.Test.YtapjahbflhingaaGreatDoorBu24
import Derived.Test.YtapjahbflhingaaGreatDoorBu27
import Derived.Test.YtapjahbflhingaaGreatDoorBu23
import Derived.Test.YtapjahbflhingaaGreatDoorBu10
import Derived.Test.YtapjahbflhingaaGreatDoorBu03
import Derived.Test.YtapjahbflhingaaGreatDoorBu02
import Derived.Test.YtapjahbflhingaaGreatDoorBu17
/- The walks of segment.Finishes and Losses, splitref1.FinishesOf and LossesOf at a right history. -/
namespace Go.Proofs.YtapjahbflhingaaGreatDoor
set_option linter.unusedVariables false
set_option linter.unusedSimpArgs false
open Go.RowKit Go.Sort

def finN (n : Nat) (atts : List Att) : Nat := (atts.filter (fun a => decide (a.2.length = n))).length
theorem finN_step {n : Nat} {atts : List Att} {k : Nat} (hk : k < atts.length) : finN n (atts.take (k + 1)) = finN n (atts.take k) + if atts[k].2.length = n then 1 else 0 := by
  unfold finN
  rw [List.take_succ_eq_append_getElem hk, List.filter_append, List.length_append]
  by_cases h : atts[k].2.length = n <;> simp [h]
theorem finN_le (n : Nat) (atts : List Att) (k : Nat) : finN n (atts.take k) ≤ atts.length := Nat.le_trans (List.length_filter_le _ _) (by simp; omega)
/-- Which part is finished. -/
def fiN (n : Nat) (atts : List Att) : Int := if atts.length = 0 then 0 else frN (finN n atts) atts.length
def fiD (n : Nat) (atts : List Att) : Int := if atts.length = 0 then 0 else frD (finN n atts) atts.length
set_option maxHeartbeats 4000000 in
set_option maxRecDepth 100000 in
theorem Finishes_ok (SA TA : Option Addr) (c d lo : Nat) (segs : List (List UInt8)) (atts : List Att) (w : World) (hh : Hist w lo SA TA segs atts) (hc : segs.length ≤ c) (hok : HistOk segs atts) :
    Calls Tryz.prog 12 #[.agg #[.slice SA segs.length c, .slice TA atts.length d]] w fun e w' => e = .returned (.tuple #[.agg #[.int .i64 (fiN segs.length atts), .int .i64 (fiD segs.length atts)], .bool (decide (0 < atts.length)), .int .i64 0]) ∧ Below w.heap.size w w' := by
  have n2 := hok.n2
  have m := hok.m
  have HO := Lib.hid hok
  have KEY : Hid (∀ s ∈ segs, s.length ≤ 1000000000) := Lib.hid (fun s hs => by
    obtain ⟨i, hi, rfl⟩ := List.mem_iff_getElem.1 hs
    have := hok.key i hi
    unfold keyB at this
    simp only [Bool.and_eq_true, decide_eq_true_eq] at this
    omega)
  clear hok
  go_enter Tryz.func12, Tryz.ntmps12
  go_wp2_with fail
  have kA : Blk ((w.alloc (.cells #[.slice SA segs.length c, .slice TA atts.length d] 29)).alloc (.cells #[.int .i64 0, .int .i64 0] 41)) w.heap.size 29 #[.slice SA segs.length c, .slice TA atts.length d] := (Blk.new _ _ _).alloc _
  have kR : Blk ((w.alloc (.cells #[.slice SA segs.length c, .slice TA atts.length d] 29)).alloc (.cells #[.int .i64 0, .int .i64 0] 41)) (w.heap.size + 1) 41 #[.int .i64 0, .int .i64 0] := by
    have := Blk.new (w.alloc (.cells #[.slice SA segs.length c, .slice TA atts.length d] 29)) 41 #[.int .i64 0, .int .i64 0]
    simpa using this
  have hx : Below w.heap.size w ((w.alloc (.cells #[.slice SA segs.length c, .slice TA atts.length d] 29)).alloc (.cells #[.int .i64 0, .int .i64 0] 41)) := ((Below.refl _ _).alloc (Nat.le_refl _) _).alloc (by simp) _
  have hh := (hh.alloc (.cells #[.slice SA segs.length c, .slice TA atts.length d] 29)).alloc (.cells #[.int .i64 0, .int .i64 0] 41)
  generalize (w.alloc (.cells #[.slice SA segs.length c, .slice TA atts.length d] 29)).alloc (.cells #[.int .i64 0, .int .i64 0] 41) = w0 at *
  refine (checkHistory_any SA TA c d _ segs atts _ hh hc (by omega) (by omega) (fun i h => by have := (HO.out.spl i h).len; omega) KEY.out).mono ?_
  rintro e w1 ⟨rfl, hb⟩
  rw [histF_zero HO.out]
  have kR := kR.below hb
  have kA := kA.below hb
  have hh := hh.below hb
  have hx := below_up hx hb
  clear hb
  obtain ⟨a0, a1⟩ := kA.two_
  have za := kA.lt
  go_wp2_with fail
  go_loopw [6, 18] (fun v i wr => ∃ k : Nat, k ≤ atts.length ∧ i = .int .i64 k ∧ v = .int .i64 (finN segs.length (atts.take k)) ∧ Below w1.heap.size w1 wr) (fun _ i _ => atts.length - (intOf i).toNat)
  case atStart => exact ⟨0, Nat.zero_le _, rfl, rfl, Below.refl _ _⟩
  case round =>
    clear a0 a1 za
    obtain ⟨k, hk, rfl, rfl, hbw⟩ := hrel
    have hz := hbw.size
    have hfl := finN_le segs.length atts k
    have kAw := kA.below hbw
    by_cases hlt : k < atts.length
    · obtain ⟨b, off, B, cB, rfl, hbs, c0, c1, _⟩ := (hh.below hbw).att hlt
      have HST := Lib.hid (finN_step (n := segs.length) hlt)
      generalize atts[k] = x at *
      obtain ⟨no, l⟩ := x
      dsimp only at *
      generalize finN segs.length (atts.take k) = q at *
      have kAx := kAw.alloc (.cells #[.int .i64 no, .slice B l.length cB] 81)
      go_wp2_with fail
      refine (finished_any w.heap.size _ _ _ _ _ _ _ 0 _ _ _ _ kAx).mono ?_
      rintro e w2 ⟨rfl, hb2⟩
      by_cases hl : l.length = segs.length
      · have HF : Hid (finN segs.length (atts.take (k + 1)) = q + 1) := Lib.hid (by rw [HST.out, if_pos hl])
        rw [decide_eq_true hl]
        clear hl HST
        have wq : IntKind.i64.wrap ((q : Int) + 1) = (q : Int) + 1 := IntWalk.i64_in _ (by omega)
        go_wp2_with fail
        go_roundw
        case rel => exact ⟨k + 1, by omega, by go_num, by rw [HF.out]; go_num, below_up (by repeat (first | exact hbw | refine Below.alloc ?_ (by first | omega | (simp; omega) | simp) _ | refine below_drewN' ?_ _ | refine Below.drew ?_)) hb2⟩
        case measure => simp [intOf]; omega
      · have HF : Hid (finN segs.length (atts.take (k + 1)) = q) := Lib.hid (by rw [HST.out, if_neg hl]; rfl)
        rw [decide_eq_false hl]
        clear hl HST
        go_wp2_with fail
        go_roundw
        case rel => exact ⟨k + 1, by omega, by go_num, by rw [HF.out], below_up (by repeat (first | exact hbw | refine Below.alloc ?_ (by first | omega | (simp; omega) | simp) _ | refine below_drewN' ?_ _ | refine Below.drew ?_)) hb2⟩
        case measure => simp [intOf]; omega
    · have hke : k = atts.length := by omega
      subst hke
      rw [List.take_length] at hfl ⊢
      have kRw := kR.below hbw
      have hxw := below_up hx hbw
      obtain ⟨W2, hW2⟩ : ∃ W, W = wr := ⟨_, rfl⟩
      subst hW2
      obtain ⟨a0, a1⟩ := kAw.two_
      have za := kAw.lt
      by_cases h0 : atts.length = 0
      · have d0 : ((atts.length : Int) == 0) = true := by rw [h0]; rfl
        have HV : Hid (fiN segs.length atts = 0 ∧ fiD segs.length atts = 0 ∧ decide (0 < atts.length) = false) := Lib.hid ⟨by simp [fiN, h0], by simp [fiD, h0], by simp [h0]⟩
        clear h0
        obtain ⟨r0, r1⟩ := kRw.two_
        have rz := kRw.lt
        have rf0 := kRw.thaw 0
        have rf1 := kRw.thaw 1
        obtain ⟨z0, z1, z2⟩ := kRw.two (.int .i64 0) (.int .i64 0)
        have HB := Lib.hid (Below.setCell (Below.setCell hxw (p := ⟨w.heap.size + 1, 0, none⟩) (by simp) (.int .i64 0)) (p := ⟨w.heap.size + 1, 1, none⟩) (by simp) (.int .i64 0))
        clear hxw kRw
        go_wp2_with fail
        refine bodyPost_ret (v := .tuple #[.agg #[.int .i64 0, .int .i64 0], .bool false, .int .i64 0]) (by simp [results, Tryz.results12, go_sem, z0, z1, z2]) rfl ?_
        obtain ⟨v1, v2, v3⟩ := HV.out
        exact ⟨by rw [v1, v2, v3], HB.out⟩
      · have d0 : ((atts.length : Int) == 0) = false := by simpa using h0
        have HV : Hid (fiN segs.length atts = frN (finN segs.length atts) atts.length ∧ fiD segs.length atts = frD (finN segs.length atts) atts.length ∧ decide (0 < atts.length) = true) := Lib.hid ⟨by simp [fiN, h0], by simp [fiD, h0], by simp; omega⟩
        have h1 : 1 ≤ atts.length := by omega
        clear h0
        go_wp2_with fail
        refine (fraction_any _ _ _ (by omega) (by omega) (by omega) (by omega)).mono ?_
        rintro e w3 ⟨rfl, hb⟩
        have kRw := kRw.below hb
        have hxw := below_up hxw hb
        clear hb a0 a1 za
        generalize hfn : frN (finN segs.length atts) atts.length = fn at *
        generalize hfd : frD (finN segs.length atts) atts.length = fd at *
        have HFN := Lib.hid hfn
        have HFD := Lib.hid hfd
        clear hfn hfd
        obtain ⟨r0, r1⟩ := kRw.two_
        have rz := kRw.lt
        have rf0 := kRw.thaw 0
        have rf1 := kRw.thaw 1
        obtain ⟨z0, z1, z2⟩ := kRw.two (.int .i64 fn) (.int .i64 fd)
        have HB := Lib.hid (Below.setCell (Below.setCell hxw (p := ⟨w.heap.size + 1, 0, none⟩) (by simp) (.int .i64 fn)) (p := ⟨w.heap.size + 1, 1, none⟩) (by simp) (.int .i64 fd))
        clear hxw kRw
        go_wp2_with fail
        refine bodyPost_ret (v := .tuple #[.agg #[.int .i64 fn, .int .i64 fd], .bool true, .int .i64 0]) (by simp [results, Tryz.results12, go_sem, z0, z1, z2]) rfl ?_
        obtain ⟨v1, v2, v3⟩ := HV.out
        exact ⟨by rw [v1, v2, v3], HB.out⟩
set_option maxHeartbeats 4000000 in
set_option maxRecDepth 100000 in
theorem finishesOf_any (SA TA : Option Addr) (c d lo : Nat) (segs : List (List UInt8)) (atts : List Att) (w : World) (hh : Hist w lo SA TA segs atts) (hok : HistOk segs atts) :
    Calls Tryz.prog 16 #[.agg #[.slice SA segs.length c, .slice TA atts.length d]] w fun e w' => e = .returned (.tuple #[.agg #[.int .i64 (fiN segs.length atts), .int .i64 (fiD segs.length atts)], .bool (decide (0 < atts.length))]) ∧ Below w.heap.size w w' := by
  have n2 := hok.n2
  have m := hok.m
  have HO := Lib.hid hok
  clear hok
  go_enter Tryz.func16, Tryz.ntmps16
  go_upto_region 2 with (fail)
  have kA : Blk ((w.alloc (.cells #[.slice SA segs.length c, .slice TA atts.length d] 29)).alloc (.cells #[.int .i64 0, .int .i64 0] 41)) w.heap.size 29 #[.slice SA segs.length c, .slice TA atts.length d] := (Blk.new _ _ _).alloc _
  have kR : Blk ((w.alloc (.cells #[.slice SA segs.length c, .slice TA atts.length d] 29)).alloc (.cells #[.int .i64 0, .int .i64 0] 41)) (w.heap.size + 1) 41 #[.int .i64 0, .int .i64 0] := by
    have := Blk.new (w.alloc (.cells #[.slice SA segs.length c, .slice TA atts.length d] 29)) 41 #[.int .i64 0, .int .i64 0]
    simpa using this
  have hx : Below w.heap.size w ((w.alloc (.cells #[.slice SA segs.length c, .slice TA atts.length d] 29)).alloc (.cells #[.int .i64 0, .int .i64 0] 41)) := ((Below.refl _ _).alloc (Nat.le_refl _) _).alloc (by simp) _
  have hh := (hh.alloc (.cells #[.slice SA segs.length c, .slice TA atts.length d] 29)).alloc (.cells #[.int .i64 0, .int .i64 0] 41)
  generalize (w.alloc (.cells #[.slice SA segs.length c, .slice TA atts.length d] 29)).alloc (.cells #[.int .i64 0, .int .i64 0] 41) = w0 at *
  obtain ⟨a0, a1⟩ := kA.two_
  have za := kA.lt
  go_wp2_with fail
  go_loopw [4, 10] (fun v i wr => ∃ k : Nat, k ≤ atts.length ∧ i = .int .i64 k ∧ v = .int .i64 (finN segs.length (atts.take k)) ∧ Below w0.heap.size w0 wr) (fun _ i _ => atts.length - (intOf i).toNat)
  case atStart => exact ⟨0, Nat.zero_le _, rfl, rfl, Below.refl _ _⟩
  case round =>
    clear a0 a1 za
    obtain ⟨k, hk, rfl, rfl, hbw⟩ := hrel
    have hz := hbw.size
    have hfl := finN_le segs.length atts k
    have kAw := kA.below hbw
    by_cases hlt : k < atts.length
    · obtain ⟨b, off, B, cB, rfl, hbs, c0, c1, _⟩ := (hh.below hbw).att hlt
      have HST := Lib.hid (finN_step (n := segs.length) hlt)
      generalize atts[k] = x at *
      obtain ⟨no, l⟩ := x
      dsimp only at *
      generalize finN segs.length (atts.take k) = q at *
      have kAx := kAw.alloc (.cells #[.int .i64 no, .slice B l.length cB] 81)
      obtain ⟨a0, a1⟩ := kAx.two_
      have za := kAx.lt
      go_wp2_with fail
      refine (rfinished_any _ _ _ _ _ _ _ _ _ _ _).mono ?_
      rintro e w2 ⟨rfl, hb2⟩
      by_cases hl : l.length = segs.length
      · have HF : Hid (finN segs.length (atts.take (k + 1)) = q + 1) := Lib.hid (by rw [HST.out, if_pos hl])
        rw [decide_eq_true hl]
        clear hl HST
        have wq : IntKind.i64.wrap ((q : Int) + 1) = (q : Int) + 1 := IntWalk.i64_in _ (by omega)
        go_wp2_with fail
        go_roundw
        case rel => exact ⟨k + 1, by omega, by go_num, by rw [HF.out]; go_num, below_up (by repeat (first | exact hbw | refine Below.alloc ?_ (by first | omega | (simp; omega) | simp) _ | refine below_drewN' ?_ _ | refine Below.drew ?_)) hb2⟩
        case measure => simp [intOf]; omega
      · have HF : Hid (finN segs.length (atts.take (k + 1)) = q) := Lib.hid (by rw [HST.out, if_neg hl]; rfl)
        rw [decide_eq_false hl]
        clear hl HST
        go_wp2_with fail
        go_roundw
        case rel => exact ⟨k + 1, by omega, by go_num, by rw [HF.out], below_up (by repeat (first | exact hbw | refine Below.alloc ?_ (by first | omega | (simp; omega) | simp) _ | refine below_drewN' ?_ _ | refine Below.drew ?_)) hb2⟩
        case measure => simp [intOf]; omega
    · have hke : k = atts.length := by omega
      subst hke
      rw [List.take_length] at hfl ⊢
      have kRw := kR.below hbw
      have hxw := below_up hx hbw
      obtain ⟨W2, hW2⟩ : ∃ W, W = wr := ⟨_, rfl⟩
      subst hW2
      obtain ⟨a0, a1⟩ := kAw.two_
      have za := kAw.lt
      by_cases h0 : atts.length = 0
      · have d0 : ((atts.length : Int) == 0) = true := by rw [h0]; rfl
        have HV : Hid (fiN segs.length atts = 0 ∧ fiD segs.length atts = 0 ∧ decide (0 < atts.length) = false) := Lib.hid ⟨by simp [fiN, h0], by simp [fiD, h0], by simp [h0]⟩
        clear h0
        obtain ⟨r0, r1⟩ := kRw.two_
        have rz := kRw.lt
        have rf0 := kRw.thaw 0
        have rf1 := kRw.thaw 1
        obtain ⟨z0, z1, z2⟩ := kRw.two (.int .i64 0) (.int .i64 0)
        have HB := Lib.hid (Below.setCell (Below.setCell hxw (p := ⟨w.heap.size + 1, 0, none⟩) (by simp) (.int .i64 0)) (p := ⟨w.heap.size + 1, 1, none⟩) (by simp) (.int .i64 0))
        clear hxw kRw
        go_wp2_with fail
        refine bodyPost_ret (v := .tuple #[.agg #[.int .i64 0, .int .i64 0], .bool false]) (by simp [results, Tryz.results16, go_sem, z0, z1, z2]) rfl ?_
        obtain ⟨v1, v2, v3⟩ := HV.out
        exact ⟨by rw [v1, v2, v3], HB.out⟩
      · have d0 : ((atts.length : Int) == 0) = false := by simpa using h0
        have HV : Hid (fiN segs.length atts = frN (finN segs.length atts) atts.length ∧ fiD segs.length atts = frD (finN segs.length atts) atts.length ∧ decide (0 < atts.length) = true) := Lib.hid ⟨by simp [fiN, h0], by simp [fiD, h0], by simp; omega⟩
        have h1 : 1 ≤ atts.length := by omega
        clear h0
        go_wp2_with fail
        refine (rlowest_any _ _ _ (by omega) (by omega) (by omega) (by omega)).mono ?_
        rintro e w3 ⟨rfl, hb⟩
        have kRw := kRw.below hb
        have hxw := below_up hxw hb
        clear hb a0 a1 za
        generalize hfn : frN (finN segs.length atts) atts.length = fn at *
        generalize hfd : frD (finN segs.length atts) atts.length = fd at *
        have HFN := Lib.hid hfn
        have HFD := Lib.hid hfd
        clear hfn hfd
        obtain ⟨r0, r1⟩ := kRw.two_
        have rz := kRw.lt
        have rf0 := kRw.thaw 0
        have rf1 := kRw.thaw 1
        obtain ⟨z0, z1, z2⟩ := kRw.two (.int .i64 fn) (.int .i64 fd)
        have HB := Lib.hid (Below.setCell (Below.setCell hxw (p := ⟨w.heap.size + 1, 0, none⟩) (by simp) (.int .i64 fn)) (p := ⟨w.heap.size + 1, 1, none⟩) (by simp) (.int .i64 fd))
        clear hxw kRw
        go_wp2_with fail
        refine bodyPost_ret (v := .tuple #[.agg #[.int .i64 fn, .int .i64 fd], .bool true]) (by simp [results, Tryz.results16, go_sem, z0, z1, z2]) rfl ?_
        obtain ⟨v1, v2, v3⟩ := HV.out
        exact ⟨by rw [v1, v2, v3], HB.out⟩
end Go.Proofs.YtapjahbflhingaaGreatDoor
/- The walks of segment.Losses and splitref1.LossesOf at a right history. -/
namespace Go.Proofs.YtapjahbflhingaaGreatDoor
set_option linter.unusedVariables false
set_option linter.unusedSimpArgs false
open Go.RowKit Go.Sort

abbrev Lss := List UInt8 × Int × Int
def encL (x : Lss) : List Value := [encStr x.1, .int .i64 x.2.1, .int .i64 x.2.2]
def lss (l : List Lss) : List Value := l.flatMap encL
theorem lss_len (l : List Lss) : (lss l).length = l.length * 3 := by
  induction l with
  | nil => rfl
  | cons p ps ih => simp only [lss, encL, List.flatMap_cons, List.length_append, List.length_cons, List.length_nil] at *; omega
theorem lss_app (a b : List Lss) : lss (a ++ b) = lss a ++ lss b := by simp [lss]
theorem ty_losses : SliceTy Tryz.prog 37 55 3 32 := .mk' Tryz.underlying37 (z := .agg #[.string ⟨#[]⟩, .int .i64 0, .int .i64 0]) (by kernel_rfl) rfl (by decide)
def cameN (k : Nat) (atts : List Att) : Nat := (atts.filter (fun a => decide (k ≤ a.2.length))).length
theorem cameN_step {n : Nat} {atts : List Att} {k : Nat} (hk : k < atts.length) : cameN n (atts.take (k + 1)) = cameN n (atts.take k) + if n ≤ atts[k].2.length then 1 else 0 := by
  unfold cameN
  rw [List.take_succ_eq_append_getElem hk, List.filter_append, List.length_append]
  by_cases h : n ≤ atts[k].2.length <;> simp [h]
theorem cameN_le (n : Nat) (atts : List Att) (k : Nat) : cameN n (atts.take k) ≤ atts.length := Nat.le_trans (List.length_filter_le _ _) (by simp; omega)
def lossL (segs : List (List UInt8)) (atts : List Att) : Nat → List Lss
  | 0 => []
  | k + 1 => lossL segs atts k ++ [(segs.getD k [], (cameN k atts : Int), (finN k atts : Int))]
theorem lossL_len (segs : List (List UInt8)) (atts : List Att) : ∀ k, (lossL segs atts k).length = k
  | 0 => rfl
  | k + 1 => by simp [lossL, lossL_len segs atts k]
theorem lossL_le (segs : List (List UInt8)) (atts : List Att) (k : Nat) : (lossL segs atts k).length ≤ k := by rw [lossL_len]; exact Nat.le_refl _
theorem Blk.three_ {w : World} {g : Nat} {t : TypeId} {a b c : Value} (h : Blk w g t #[a, b, c]) : w.cell? ⟨g, 0, none⟩ = some a ∧ w.cell? ⟨g, 1, none⟩ = some b ∧ w.cell? ⟨g, 2, none⟩ = some c := ⟨by rw [h.cell]; rfl, by rw [h.cell]; rfl, by rw [h.cell]; rfl⟩
theorem Blk.as3 {w : World} {g : Nat} {t : TypeId} {cs cs' : Array Value} (h : Blk w g t cs) (e : cs = cs') : Blk w g t cs' := e ▸ h
set_option maxHeartbeats 4000000 in
set_option maxRecDepth 100000 in
theorem Losses_ok (SA TA : Option Addr) (c d lo : Nat) (segs : List (List UInt8)) (atts : List Att) (w : World) (hh : Hist w lo SA TA segs atts) (hc : segs.length ≤ c) (hok : HistOk segs atts) :
    Calls Tryz.prog 11 #[.agg #[.slice SA segs.length c, .slice TA atts.length d]] w fun e w' => ∃ A' c', e = .returned (.tuple #[.slice A' (lossL segs atts segs.length).length c', .int .i64 0]) ∧ w'.ownsRow w.heap.size 55 3 (.slice A' (lossL segs atts segs.length).length c') (lossL segs atts segs.length).length (lss (lossL segs atts segs.length)) ∧ Below w.heap.size w w' := by
  have n2 := hok.n2
  have m := hok.m
  have HO := Lib.hid hok
  have KEY : Hid (∀ s ∈ segs, s.length ≤ 1000000000) := Lib.hid (fun s hs => by
    obtain ⟨i, hi, rfl⟩ := List.mem_iff_getElem.1 hs
    have := hok.key i hi
    unfold keyB at this
    simp only [Bool.and_eq_true, decide_eq_true_eq] at this
    omega)
  clear hok
  go_enter Tryz.func11, Tryz.ntmps11
  go_wp2_with fail
  have kA : Blk (w.alloc (.cells #[.slice SA segs.length c, .slice TA atts.length d] 29)) w.heap.size 29 #[.slice SA segs.length c, .slice TA atts.length d] := Blk.new _ _ _
  have hx : Below w.heap.size w (w.alloc (.cells #[.slice SA segs.length c, .slice TA atts.length d] 29)) := (Below.refl _ _).alloc (Nat.le_refl _) _
  have hh := hh.alloc (.cells #[.slice SA segs.length c, .slice TA atts.length d] 29)
  generalize w.alloc (.cells #[.slice SA segs.length c, .slice TA atts.length d] 29) = w0 at *
  refine (checkHistory_any SA TA c d _ segs atts _ hh hc (by omega) (by omega) (fun i h => by have := (HO.out.spl i h).len; omega) KEY.out).mono ?_
  rintro e w1 ⟨rfl, hb⟩
  rw [histF_zero HO.out]
  have kA := kA.below hb
  have hh := hh.below hb
  have hx := below_up hx hb
  clear hb
  have hxz0 := hx.size
  obtain ⟨a0, a1⟩ := kA.two_
  have za := kA.lt
  have s9 := hh.1
  go_wp2_with fail
  go_loopw [5, 19] (fun v i wr => ∃ (k : Nat) (A : Option Addr) (cc : Nat), k ≤ segs.length ∧ i = .int .i64 k ∧ v = .slice A (lossL segs atts k).length cc ∧ wr.ownsRow w1.heap.size 55 3 (.slice A (lossL segs atts k).length cc) (lossL segs atts k).length (lss (lossL segs atts k)) ∧ Below w1.heap.size w1 wr ∧ Below w.heap.size w wr) (fun _ i _ => segs.length - (intOf i).toNat)
  case atStart => exact ⟨0, none, 0, Nat.zero_le _, rfl, rfl, World.ownsRow_nil _ _ _ _, Below.refl _ _, hx⟩
  case round =>
    clear a0 a1 za
    obtain ⟨k, A, cc, hk, rfl, rfl, hown, hbw, hxw⟩ := hrel
    obtain ⟨W, hW⟩ : ∃ W, W = wr := ⟨_, rfl⟩
    subst hW
    have kAw := kA.below hbw
    have hlz := lossL_le segs atts k
    have hxz := hxw.size
    by_cases hlt : k < segs.length
    · obtain ⟨sb, so, rfl, _, sz, sc⟩ := (hh.below hbw).1.str_at hlt
      have HG : Hid (lossL segs atts (k + 1) = lossL segs atts k ++ [(segs[k], (cameN k atts : Int), (finN k atts : Int))]) := Lib.hid (by
        simp only [lossL]; rw [List.getD_eq_getElem?_getD, List.getElem?_eq_getElem hlt]; rfl)
      unfold encStr at sc
      generalize segs[k] = s at *
      generalize lossL segs atts k = ll at *
      have kX : Blk (W.alloc (.cells #[.string ⟨s.toArray⟩, .int .i64 0, .int .i64 0] 55)) W.heap.size 55 #[.string ⟨s.toArray⟩, .int .i64 0, .int .i64 0] := Blk.new _ _ _
      have hbx : Below W.heap.size W (W.alloc (.cells #[.string ⟨s.toArray⟩, .int .i64 0, .int .i64 0] 55)) := (Below.refl _ _).alloc (Nat.le_refl _) _
      obtain ⟨a0, a1⟩ := kAw.two_
      have za := kAw.lt
      go_upto_region 9 with (fail)
      generalize W.alloc (.cells #[.string ⟨s.toArray⟩, .int .i64 0, .int .i64 0] 55) = w5 at *
      clear a0 a1 za
      have kA5 := kAw.below hbx
      obtain ⟨a0, a1⟩ := kA5.two_
      have za := kA5.lt
      clear kA5
      go_wp2_with fail
      go_loopw [29] (fun i wv => ∃ j : Nat, j ≤ atts.length ∧ i = .int .i64 j ∧ Blk wv W.heap.size 55 #[.string ⟨s.toArray⟩, .int .i64 (cameN k (atts.take j)), .int .i64 (finN k (atts.take j))] ∧ Below W.heap.size W wv) (fun i _ => atts.length - (intOf i).toNat)
      case atStart => exact ⟨0, Nat.zero_le _, rfl, kX, hbx⟩
      case round =>
        clear kX hbx a0 a1 za
        obtain ⟨j, hj, rfl, kX, hbx⟩ := hrel
        have hbz := hbx.size
        have hcl := cameN_le k atts j
        have hfl := finN_le k atts j
        by_cases hjl : j < atts.length
        · obtain ⟨b, off, B, cB, rfl, hbs, c0, c1, _⟩ := ((hh.below hbw).below hbx).att hjl
          have HS1 := Lib.hid (cameN_step (n := k) hjl)
          have HS2 := Lib.hid (finN_step (n := k) hjl)
          generalize atts[j] = x at *
          obtain ⟨no, l⟩ := x
          dsimp only at *
          generalize cameN k (atts.take j) = p at *
          generalize finN k (atts.take j) = q at *
          have kX2 := kX.alloc (.cells #[.int .i64 no, .slice B l.length cB] 81)
          have hbx2 : Below W.heap.size W (wr.alloc (.cells #[.int .i64 no, .slice B l.length cB] 81)) := Below.alloc hbx hbx.size _
          obtain ⟨x0, x1, x2⟩ := kX2.three_
          have xz := kX2.lt
          have xf1 := kX2.thaw 1
          have xf2 := kX2.thaw 2
          have hxa : W.heap.size ≠ wr.heap.size := by have := kX.lt; omega
          have wp1 : IntKind.i64.wrap ((p : Int) + 1) = (p : Int) + 1 := IntWalk.i64_in _ (by omega)
          have wq1 : IntKind.i64.wrap ((q : Int) + 1) = (q : Int) + 1 := IntWalk.i64_in _ (by omega)
          by_cases h1 : k ≤ l.length
          · have d1 : decide (k ≤ l.length) = true := by simpa using h1
            have HP : Hid (cameN k (atts.take (j + 1)) = p + 1) := Lib.hid (by rw [HS1.out, if_pos h1])
            have kX3 := (kX2.poke 1 (.int .i64 ((p : Int) + 1))).as3 (cs' := #[.string ⟨s.toArray⟩, .int .i64 ((p : Int) + 1), .int .i64 q]) (by simp)
            have hbx3 := Below.setCell hbx2 (p := ⟨W.heap.size, 1, none⟩) (Nat.le_refl _) (.int .i64 ((p : Int) + 1))
            have xf3 := kX3.thaw 2
            have hc3 : ((wr.alloc (.cells #[.int .i64 no, .slice B l.length cB] 81)).setCell ⟨W.heap.size, 1, none⟩ (.int .i64 ((p : Int) + 1))).cell? ⟨wr.heap.size, 1, none⟩ = some (.slice B l.length cB) := ((Blk.new wr 81 #[.int .i64 no, .slice B l.length cB]).past W.heap.size 1 (.int .i64 ((p : Int) + 1)) (by omega)).two_.2
            by_cases h2 : l.length = k
            · have d2 : (l.length == k) = true := by simpa using h2
              have d2' : ((l.length : Int) == (k : Int)) = true := by simp; omega
              have HQ : Hid (finN k (atts.take (j + 1)) = q + 1) := Lib.hid (by rw [HS2.out, if_pos h2])
              have kX4 := (kX3.poke 2 (.int .i64 ((q : Int) + 1))).as3 (cs' := #[.string ⟨s.toArray⟩, .int .i64 ((p : Int) + 1), .int .i64 ((q : Int) + 1)]) (by simp)
              have hbx4 := Below.setCell hbx3 (p := ⟨W.heap.size, 2, none⟩) (Nat.le_refl _) (.int .i64 ((q : Int) + 1))
              clear h1 h2 HS1 HS2 kX kX2 hbx hbx2
              go_wp2_with fail
              go_roundw
              case rel => exact ⟨j + 1, by omega, by go_num, by rw [HP.out, HQ.out, Int.natCast_add, Int.natCast_add]; exact kX4, hbx4⟩
              case measure => simp [intOf]; omega
            · have d2 : (l.length == k) = false := by simpa using h2
              have d2' : ((l.length : Int) == (k : Int)) = false := by simp; omega
              have HQ : Hid (finN k (atts.take (j + 1)) = q) := Lib.hid (by rw [HS2.out, if_neg h2]; rfl)
              clear h1 h2 HS1 HS2 kX kX2 hbx hbx2
              go_wp2_with fail
              go_roundw
              case rel => exact ⟨j + 1, by omega, by go_num, by rw [HP.out, HQ.out, Int.natCast_add]; exact kX3, hbx3⟩
              case measure => simp [intOf]; omega
          · have d1 : decide (k ≤ l.length) = false := by simpa using h1
            have h2 : ¬ l.length = k := by omega
            have d2 : (l.length == k) = false := by simpa using h2
            have d2' : ((l.length : Int) == (k : Int)) = false := by simp; omega
            have HP : Hid (cameN k (atts.take (j + 1)) = p) := Lib.hid (by rw [HS1.out, if_neg h1]; rfl)
            have HQ : Hid (finN k (atts.take (j + 1)) = q) := Lib.hid (by rw [HS2.out, if_neg (by omega)]; rfl)
            clear h1 h2 HS1 HS2 kX hbx
            go_wp2_with fail
            go_roundw
            case rel => exact ⟨j + 1, by omega, by go_num, by rw [HP.out, HQ.out]; exact kX2, hbx2⟩
            case measure => simp [intOf]; omega
        · have hje : j = atts.length := by omega
          subst hje
          rw [List.take_length] at kX
          obtain ⟨W6, hW6⟩ : ∃ W, W = wr := ⟨_, rfl⟩
          subst hW6
          generalize hp9 : cameN k atts = p at *
          generalize hq9 : finN k atts = q at *
          have HGG : Hid (lossL segs atts (k + 1) = ll ++ [(s, (p : Int), (q : Int))]) := HG
          have hownW := own_keep hown hbx
          have hwz1 : w1.heap.size ≤ W6.heap.size := Nat.le_trans hbw.size hbx.size
          obtain ⟨x0, x1, x2⟩ := kX.three_
          have xz := kX.lt
          clear hp9 hq9
          go_wp2_with (at_builtin; go_must (refine wpList_app (lo := w1.heap.size) (base := w1.heap.size) (n := ll.length) (xs := lss ll) _ _ rfl _ _ ty_losses rfl (by repeat (first | exact hownW | refine World.ownsRow.alloc ?_ _ | refine own_drewN ?_ _ | refine World.ownsRow.drew ?_)) rfl (by first | exact row_new' _ (by first | rfl | simp) (by first | omega | (simp; omega)) rfl | exact row_newN _ _ (by first | rfl | simp) (by first | omega | (simp; omega)) rfl | exact row_newD _ (by first | rfl | simp) (by first | omega | (simp; omega)) rfl) rfl rfl (by first | omega | decide) (by first | omega | decide) (by first | omega | (simp; omega)) ?_))
          intro A5 c5 w5 hown5 hg5 _
          have hownA := hownW.alloc (.cells #[.string ⟨s.toArray⟩, .int .i64 p, .int .i64 q] 55)
          have hba : Below w.heap.size w (W6.alloc (.cells #[.string ⟨s.toArray⟩, .int .i64 p, .int .i64 q] 55)) := Below.alloc (below_up hxw hbx) (Nat.le_trans hxz hbx.size) _
          have hbz5 : Below w.heap.size w w5 := below_app hownA hba hg5 hxz0 hba.size
          have hbw5 : Below w1.heap.size w1 w5 := by
            have h1 : Below w1.heap.size w1 (W6.alloc (.cells #[.string ⟨s.toArray⟩, .int .i64 p, .int .i64 q] 55)) := Below.alloc (below_up hbw hbx) (Nat.le_trans hbw.size hbx.size) _
            exact below_app hownA h1 hg5 (Nat.le_refl _) h1.size
          have hown9 : w5.ownsRow w1.heap.size 55 3 (.slice A5 (ll ++ [(s, (p : Int), (q : Int))]).length c5) (ll ++ [(s, (p : Int), (q : Int))]).length (lss (ll ++ [(s, (p : Int), (q : Int))])) := by
            rw [lss_app, List.length_append]; exact hown5
          go_wp2_with fail
          go_roundw
          case rel => exact ⟨k + 1, A5, c5, by omega, by go_num, by rw [HGG.out, List.length_append]; rfl, by rw [HGG.out]; exact hown9, hbw5, hbz5⟩
          case measure => simp [intOf]; omega
    · have hke : k = segs.length := by omega
      subst hke
      go_wp2_with fail
      go_returns
      exact ⟨A, cc, rfl, own_weak hown hxz0, hxw⟩
set_option maxHeartbeats 4000000 in
set_option maxRecDepth 100000 in
theorem lossesOf_any (SA TA : Option Addr) (c d lo : Nat) (segs : List (List UInt8)) (atts : List Att) (w : World) (hh : Hist w lo SA TA segs atts) (hok : HistOk segs atts) :
    Calls Tryz.prog 19 #[.agg #[.slice SA segs.length c, .slice TA atts.length d]] w fun e w' => ∃ A' c', e = .returned (.slice A' (lossL segs atts segs.length).length c') ∧ w'.ownsRow w.heap.size 55 3 (.slice A' (lossL segs atts segs.length).length c') (lossL segs atts segs.length).length (lss (lossL segs atts segs.length)) ∧ Below w.heap.size w w' := by
  have n2 := hok.n2
  have m := hok.m
  have HO := Lib.hid hok
  clear hok
  go_enter Tryz.func19, Tryz.ntmps19
  go_upto_region 2 with (fail)
  have kA : Blk (w.alloc (.cells #[.slice SA segs.length c, .slice TA atts.length d] 29)) w.heap.size 29 #[.slice SA segs.length c, .slice TA atts.length d] := Blk.new _ _ _
  have hx : Below w.heap.size w (w.alloc (.cells #[.slice SA segs.length c, .slice TA atts.length d] 29)) := (Below.refl _ _).alloc (Nat.le_refl _) _
  have hh := hh.alloc (.cells #[.slice SA segs.length c, .slice TA atts.length d] 29)
  generalize w.alloc (.cells #[.slice SA segs.length c, .slice TA atts.length d] 29) = w0 at *
  have hxz0 := hx.size
  obtain ⟨a0, a1⟩ := kA.two_
  have za := kA.lt
  have s9 := hh.1
  go_wp2_with fail
  go_loopw [3, 12] (fun v i wr => ∃ (k : Nat) (A : Option Addr) (cc : Nat), k ≤ segs.length ∧ i = .int .i64 k ∧ v = .slice A (lossL segs atts k).length cc ∧ wr.ownsRow w0.heap.size 55 3 (.slice A (lossL segs atts k).length cc) (lossL segs atts k).length (lss (lossL segs atts k)) ∧ Below w0.heap.size w0 wr ∧ Below w.heap.size w wr) (fun _ i _ => segs.length - (intOf i).toNat)
  case atStart => exact ⟨0, none, 0, Nat.zero_le _, rfl, rfl, World.ownsRow_nil _ _ _ _, Below.refl _ _, hx⟩
  case round =>
    clear a0 a1 za
    obtain ⟨k, A, cc, hk, rfl, rfl, hown, hbw, hxw⟩ := hrel
    obtain ⟨W, hW⟩ : ∃ W, W = wr := ⟨_, rfl⟩
    subst hW
    have kAw := kA.below hbw
    have hlz := lossL_le segs atts k
    have hxz := hxw.size
    by_cases hlt : k < segs.length
    · obtain ⟨sb, so, rfl, _, sz, sc⟩ := (hh.below hbw).1.str_at hlt
      have HG : Hid (lossL segs atts (k + 1) = lossL segs atts k ++ [(segs[k], (cameN k atts : Int), (finN k atts : Int))]) := Lib.hid (by
        simp only [lossL]; rw [List.getD_eq_getElem?_getD, List.getElem?_eq_getElem hlt]; rfl)
      unfold encStr at sc
      generalize segs[k] = s at *
      generalize lossL segs atts k = ll at *
      have kX : Blk (W.alloc (.cells #[.string ⟨s.toArray⟩, .int .i64 0, .int .i64 0] 55)) W.heap.size 55 #[.string ⟨s.toArray⟩, .int .i64 0, .int .i64 0] := Blk.new _ _ _
      have hbx : Below W.heap.size W (W.alloc (.cells #[.string ⟨s.toArray⟩, .int .i64 0, .int .i64 0] 55)) := (Below.refl _ _).alloc (Nat.le_refl _) _
      obtain ⟨a0, a1⟩ := kAw.two_
      have za := kAw.lt
      go_upto_region 6 with (fail)
      generalize W.alloc (.cells #[.string ⟨s.toArray⟩, .int .i64 0, .int .i64 0] 55) = w5 at *
      clear a0 a1 za
      have kA5 := kAw.below hbx
      obtain ⟨a0, a1⟩ := kA5.two_
      have za := kA5.lt
      clear kA5
      go_wp2_with fail
      go_loopw [22] (fun i wv => ∃ j : Nat, j ≤ atts.length ∧ i = .int .i64 j ∧ Blk wv W.heap.size 55 #[.string ⟨s.toArray⟩, .int .i64 (cameN k (atts.take j)), .int .i64 (finN k (atts.take j))] ∧ Below W.heap.size W wv) (fun i _ => atts.length - (intOf i).toNat)
      case atStart => exact ⟨0, Nat.zero_le _, rfl, kX, hbx⟩
      case round =>
        clear kX hbx a0 a1 za
        obtain ⟨j, hj, rfl, kX, hbx⟩ := hrel
        have hbz := hbx.size
        have hcl := cameN_le k atts j
        have hfl := finN_le k atts j
        by_cases hjl : j < atts.length
        · obtain ⟨b, off, B, cB, rfl, hbs, c0, c1, _⟩ := ((hh.below hbw).below hbx).att hjl
          have HS1 := Lib.hid (cameN_step (n := k) hjl)
          have HS2 := Lib.hid (finN_step (n := k) hjl)
          generalize atts[j] = x at *
          obtain ⟨no, l⟩ := x
          dsimp only at *
          generalize cameN k (atts.take j) = p at *
          generalize finN k (atts.take j) = q at *
          have kX2 := kX.alloc (.cells #[.int .i64 no, .slice B l.length cB] 81)
          have hbx2 : Below W.heap.size W (wr.alloc (.cells #[.int .i64 no, .slice B l.length cB] 81)) := Below.alloc hbx hbx.size _
          obtain ⟨x0, x1, x2⟩ := kX2.three_
          have xz := kX2.lt
          have xf1 := kX2.thaw 1
          have xf2 := kX2.thaw 2
          have hxa : W.heap.size ≠ wr.heap.size := by have := kX.lt; omega
          have wp1 : IntKind.i64.wrap ((p : Int) + 1) = (p : Int) + 1 := IntWalk.i64_in _ (by omega)
          have wq1 : IntKind.i64.wrap ((q : Int) + 1) = (q : Int) + 1 := IntWalk.i64_in _ (by omega)
          by_cases h1 : k ≤ l.length
          · have d1 : decide (k ≤ l.length) = true := by simpa using h1
            have HP : Hid (cameN k (atts.take (j + 1)) = p + 1) := Lib.hid (by rw [HS1.out, if_pos h1])
            have kX3 := (kX2.poke 1 (.int .i64 ((p : Int) + 1))).as3 (cs' := #[.string ⟨s.toArray⟩, .int .i64 ((p : Int) + 1), .int .i64 q]) (by simp)
            have hbx3 := Below.setCell hbx2 (p := ⟨W.heap.size, 1, none⟩) (Nat.le_refl _) (.int .i64 ((p : Int) + 1))
            have xf3 := kX3.thaw 2
            have hc3 : ((wr.alloc (.cells #[.int .i64 no, .slice B l.length cB] 81)).setCell ⟨W.heap.size, 1, none⟩ (.int .i64 ((p : Int) + 1))).cell? ⟨wr.heap.size, 1, none⟩ = some (.slice B l.length cB) := ((Blk.new wr 81 #[.int .i64 no, .slice B l.length cB]).past W.heap.size 1 (.int .i64 ((p : Int) + 1)) (by omega)).two_.2
            by_cases h2 : l.length = k
            · have d2 : (l.length == k) = true := by simpa using h2
              have d2' : ((l.length : Int) == (k : Int)) = true := by simp; omega
              have HQ : Hid (finN k (atts.take (j + 1)) = q + 1) := Lib.hid (by rw [HS2.out, if_pos h2])
              have kX4 := (kX3.poke 2 (.int .i64 ((q : Int) + 1))).as3 (cs' := #[.string ⟨s.toArray⟩, .int .i64 ((p : Int) + 1), .int .i64 ((q : Int) + 1)]) (by simp)
              have hbx4 := Below.setCell hbx3 (p := ⟨W.heap.size, 2, none⟩) (Nat.le_refl _) (.int .i64 ((q : Int) + 1))
              clear h1 h2 HS1 HS2 kX kX2 hbx hbx2
              go_wp2_with fail
              go_roundw
              case rel => exact ⟨j + 1, by omega, by go_num, by rw [HP.out, HQ.out, Int.natCast_add, Int.natCast_add]; exact kX4, hbx4⟩
              case measure => simp [intOf]; omega
            · have d2 : (l.length == k) = false := by simpa using h2
              have d2' : ((l.length : Int) == (k : Int)) = false := by simp; omega
              have HQ : Hid (finN k (atts.take (j + 1)) = q) := Lib.hid (by rw [HS2.out, if_neg h2]; rfl)
              clear h1 h2 HS1 HS2 kX kX2 hbx hbx2
              go_wp2_with fail
              go_roundw
              case rel => exact ⟨j + 1, by omega, by go_num, by rw [HP.out, HQ.out, Int.natCast_add]; exact kX3, hbx3⟩
              case measure => simp [intOf]; omega
          · have d1 : decide (k ≤ l.length) = false := by simpa using h1
            have h2 : ¬ l.length = k := by omega
            have d2 : (l.length == k) = false := by simpa using h2
            have d2' : ((l.length : Int) == (k : Int)) = false := by simp; omega
            have HP : Hid (cameN k (atts.take (j + 1)) = p) := Lib.hid (by rw [HS1.out, if_neg h1]; rfl)
            have HQ : Hid (finN k (atts.take (j + 1)) = q) := Lib.hid (by rw [HS2.out, if_neg (by omega)]; rfl)
            clear h1 h2 HS1 HS2 kX hbx
            go_wp2_with fail
            go_roundw
            case rel => exact ⟨j + 1, by omega, by go_num, by rw [HP.out, HQ.out]; exact kX2, hbx2⟩
            case measure => simp [intOf]; omega
        · have hje : j = atts.length := by omega
          subst hje
          rw [List.take_length] at kX
          obtain ⟨W6, hW6⟩ : ∃ W, W = wr := ⟨_, rfl⟩
          subst hW6
          generalize hp9 : cameN k atts = p at *
          generalize hq9 : finN k atts = q at *
          have HGG : Hid (lossL segs atts (k + 1) = ll ++ [(s, (p : Int), (q : Int))]) := HG
          have hownW := own_keep hown hbx
          have hwz1 : w0.heap.size ≤ W6.heap.size := Nat.le_trans hbw.size hbx.size
          obtain ⟨x0, x1, x2⟩ := kX.three_
          have xz := kX.lt
          clear hp9 hq9
          go_wp2_with (at_builtin; go_must (refine wpList_app (lo := w0.heap.size) (base := w0.heap.size) (n := ll.length) (xs := lss ll) _ _ rfl _ _ ty_losses rfl (by repeat (first | exact hownW | refine World.ownsRow.alloc ?_ _ | refine own_drewN ?_ _ | refine World.ownsRow.drew ?_)) rfl (by first | exact row_new' _ (by first | rfl | simp) (by first | omega | (simp; omega)) rfl | exact row_newN _ _ (by first | rfl | simp) (by first | omega | (simp; omega)) rfl | exact row_newD _ (by first | rfl | simp) (by first | omega | (simp; omega)) rfl) rfl rfl (by first | omega | decide) (by first | omega | decide) (by first | omega | (simp; omega)) ?_))
          intro A5 c5 w5 hown5 hg5 _
          have hownA := hownW.alloc (.cells #[.string ⟨s.toArray⟩, .int .i64 p, .int .i64 q] 55)
          have hba : Below w.heap.size w (W6.alloc (.cells #[.string ⟨s.toArray⟩, .int .i64 p, .int .i64 q] 55)) := Below.alloc (below_up hxw hbx) (Nat.le_trans hxz hbx.size) _
          have hbz5 : Below w.heap.size w w5 := below_app hownA hba hg5 hxz0 hba.size
          have hbw5 : Below w0.heap.size w0 w5 := by
            have h1 : Below w0.heap.size w0 (W6.alloc (.cells #[.string ⟨s.toArray⟩, .int .i64 p, .int .i64 q] 55)) := Below.alloc (below_up hbw hbx) (Nat.le_trans hbw.size hbx.size) _
            exact below_app hownA h1 hg5 (Nat.le_refl _) h1.size
          have hown9 : w5.ownsRow w0.heap.size 55 3 (.slice A5 (ll ++ [(s, (p : Int), (q : Int))]).length c5) (ll ++ [(s, (p : Int), (q : Int))]).length (lss (ll ++ [(s, (p : Int), (q : Int))])) := by
            rw [lss_app, List.length_append]; exact hown5
          go_wp2_with fail
          go_roundw
          case rel => exact ⟨k + 1, A5, c5, by omega, by go_num, by rw [HGG.out, List.length_append]; rfl, by rw [HGG.out]; exact hown9, hbw5, hbz5⟩
          case measure => simp [intOf]; omega
    · have hke : k = segs.length := by omega
      subst hke
      go_wp2_with fail
      go_ret
      exact ⟨A, cc, rfl, own_weak hown hxz0, hxw⟩
end Go.Proofs.YtapjahbflhingaaGreatDoor
