/- Texts of this seat, laid together: Ce. -/
import Derived.Handy
import Derived.Test.YtapjahbflhingaaGreatDoorBu68
import Derived.Test.YtapjahbflhingaaGreatDoorBu69
import Derived.Test.YtapjahbflhingaaGreatDoorBu70
import Derived.Test.YtapjahbflhingaaGreatDoorBu58
import Derived.Test.YtapjahbflhingaaGreatDoorBu32
/- Save, Losses, Finishes and Chance at a wrong history; equal rows of pairs and of losses; Chance at any time. -/
namespace Go.Proofs.YtapjahbflhingaaGreatDoor
set_option linter.unusedVariables false
set_option linter.unusedSimpArgs false
open Go.RowKit Go.Sort

theorem pr2_at (ds : List Pr2) (k : Nat) (hk : k < ds.length) : (pr2 ds)[k * 2]? = some (encStr ds[k].1) ∧ (pr2 ds)[k * 2 + 1]? = some (encStr ds[k].2) := by
  induction ds generalizing k with
  | nil => simp at hk
  | cons d ds ih =>
    have e : pr2 (d :: ds) = encP2 d ++ pr2 ds := by simp [pr2]
    rw [e]
    cases k with
    | zero => simp [encP2]
    | succ k =>
      have := ih k (by simpa using hk)
      have l4 : (encP2 d).length = 2 := rfl
      refine ⟨?_, ?_⟩ <;> (rw [List.getElem?_append_right (by rw [l4]; omega), l4])
      · rw [show (k + 1) * 2 - 2 = k * 2 by omega]; simpa using this.1
      · rw [show (k + 1) * 2 + 1 - 2 = k * 2 + 1 by omega]; simpa using this.2
theorem lss_at (ds : List Lss) (k : Nat) (hk : k < ds.length) : (lss ds)[k * 3]? = some (encStr ds[k].1) ∧ (lss ds)[k * 3 + 1]? = some (.int .i64 ds[k].2.1) ∧ (lss ds)[k * 3 + 2]? = some (.int .i64 ds[k].2.2) := by
  induction ds generalizing k with
  | nil => simp at hk
  | cons d ds ih =>
    have e : lss (d :: ds) = encL d ++ lss ds := by simp [lss]
    rw [e]
    cases k with
    | zero => simp [encL]
    | succ k =>
      have := ih k (by simpa using hk)
      have l4 : (encL d).length = 3 := rfl
      refine ⟨?_, ?_, ?_⟩ <;> (rw [List.getElem?_append_right (by rw [l4]; omega), l4])
      · rw [show (k + 1) * 3 - 3 = k * 3 by omega]; simpa using this.1
      · rw [show (k + 1) * 3 + 1 - 3 = k * 3 + 1 by omega]; simpa using this.2.1
      · rw [show (k + 1) * 3 + 2 - 3 = k * 3 + 2 by omega]; simpa using this.2.2
theorem Row.p2_at {w : World} {lo : Nat} {A : Option Addr} {ds : List Pr2} (h : Row w lo 2 A ds.length (pr2 ds)) {k : Nat} (hk : k < ds.length) :
    ∃ b off, A = some ⟨b, off, none⟩ ∧ b < w.heap.size ∧ w.cell? ⟨b, off + k * 2, none⟩ = some (encStr ds[k].1) ∧ w.cell? ⟨b, off + k * 2 + 1, none⟩ = some (encStr ds[k].2) := by
  obtain ⟨b, off, e, _, hb, hc⟩ := h.2 (by omega)
  obtain ⟨e1, e2⟩ := pr2_at ds k hk
  exact ⟨b, off, e, hb, hc _ _ e1, by rw [Nat.add_assoc]; exact hc _ _ e2⟩
theorem Row.ls_at {w : World} {lo : Nat} {A : Option Addr} {ds : List Lss} (h : Row w lo 3 A ds.length (lss ds)) {k : Nat} (hk : k < ds.length) :
    ∃ b off, A = some ⟨b, off, none⟩ ∧ b < w.heap.size ∧ w.cell? ⟨b, off + k * 3, none⟩ = some (encStr ds[k].1) ∧ w.cell? ⟨b, off + k * 3 + 1, none⟩ = some (.int .i64 ds[k].2.1) ∧ w.cell? ⟨b, off + k * 3 + 2, none⟩ = some (.int .i64 ds[k].2.2) := by
  obtain ⟨b, off, e, _, hb, hc⟩ := h.2 (by omega)
  obtain ⟨e1, e2, e3⟩ := lss_at ds k hk
  exact ⟨b, off, e, hb, hc _ _ e1, by rw [Nat.add_assoc]; exact hc _ _ e2, by rw [Nat.add_assoc]; exact hc _ _ e3⟩
set_option maxHeartbeats 1000000 in
theorem equalPr_any (A B : Option Addr) (c d lo lo' : Nat) (ps qs : List Pr2) (w : World) (hr : Row w lo 2 A ps.length (pr2 ps)) (hr' : Row w lo' 2 B qs.length (pr2 qs)) (hl : ps.length ≤ 1000000000) (heq : ps = qs) :
    Calls Tryz.prog 17 #[.slice A ps.length c, .slice B qs.length d] w fun e w' => e = .returned (.bool true) ∧ ∃ q, w' = w.drewN q := by
  subst heq
  have h0 : ((ps.length : Int) != (ps.length : Int)) = false := by simp
  go_enter Tryz.func17, Tryz.ntmps17
  go_wp2_with fail
  go_loopw [13] (fun i wr => ∃ (k : Nat) (q : Nat), k ≤ ps.length ∧ i = .int .i64 k ∧ wr = w.drewN q) (fun i _ => ps.length - (intOf i).toNat)
  case atStart => exact ⟨0, 0, Nat.zero_le _, rfl, rfl⟩
  case round =>
    obtain ⟨k, q, hk, rfl, rfl⟩ := hrel
    by_cases hlt : k < ps.length
    · obtain ⟨b, off, rfl, hbs, c0, c1⟩ := hr.p2_at hlt
      obtain ⟨b', off', rfl, hbs', d0, d1⟩ := hr'.p2_at hlt
      unfold encStr at c0 c1 d0 d1
      generalize ps[k].1 = s0 at *
      generalize ps[k].2 = s1 at *
      go_wp2_with fail
      go_quiet (fail)
      go_wp2_with fail
      go_roundw
      case rel => exact ⟨k + 1, _, by omega, by go_num, rfl⟩
      case measure => simp [intOf]; omega
    · go_wp2_with fail
      go_ret
      exact ⟨rfl, _, rfl⟩
set_option maxHeartbeats 1000000 in
theorem equalLs_any (A B : Option Addr) (c d lo lo' : Nat) (ps qs : List Lss) (w : World) (hr : Row w lo 3 A ps.length (lss ps)) (hr' : Row w lo' 3 B qs.length (lss qs)) (hl : ps.length ≤ 1000000000) (heq : ps = qs) :
    Calls Tryz.prog 18 #[.slice A ps.length c, .slice B qs.length d] w fun e w' => e = .returned (.bool true) ∧ ∃ q, w' = w.drewN q := by
  subst heq
  have h0 : ((ps.length : Int) != (ps.length : Int)) = false := by simp
  go_enter Tryz.func18, Tryz.ntmps18
  go_wp2_with fail
  go_loopw [13] (fun i wr => ∃ (k : Nat) (q : Nat), k ≤ ps.length ∧ i = .int .i64 k ∧ wr = w.drewN q) (fun i _ => ps.length - (intOf i).toNat)
  case atStart => exact ⟨0, 0, Nat.zero_le _, rfl, rfl⟩
  case round =>
    obtain ⟨k, q, hk, rfl, rfl⟩ := hrel
    by_cases hlt : k < ps.length
    · obtain ⟨b, off, rfl, hbs, c0, c1, c2⟩ := hr.ls_at hlt
      obtain ⟨b', off', rfl, hbs', d0, d1, d2⟩ := hr'.ls_at hlt
      unfold encStr at c0 d0
      generalize ps[k].1 = s0 at *
      generalize ps[k].2.1 = s1 at *
      generalize ps[k].2.2 = s2 at *
      go_wp2_with fail
      go_quiet (fail)
      go_wp2_with fail
      go_roundw
      case rel => exact ⟨k + 1, _, by omega, by go_num, rfl⟩
      case measure => simp [intOf]; omega
    · go_wp2_with fail
      go_ret
      exact ⟨rfl, _, rfl⟩
set_option maxHeartbeats 1000000 in
theorem Save_bad (SA TA : Option Addr) (c d lo : Nat) (segs : List (List UInt8)) (atts : List Att) (w : World) (hh : Hist w lo SA TA segs atts) (hz : HistSz segs atts c) (hf : histF segs atts ≠ 0) :
    Calls Tryz.prog 10 #[.agg #[.slice SA segs.length c, .slice TA atts.length d]] w fun e w' => e = .returned (.tuple #[.slice none 0 0, .bool false, .int .i64 (histF segs atts)]) ∧ Below w.heap.size w w' := by
  have d5 : (histF segs atts != 0) = true := by simpa using hf
  clear hf
  go_enter Tryz.func10, Tryz.ntmps10
  go_wp2_with fail
  have hb0 : Below w.heap.size w (w.alloc (.cells #[.slice SA segs.length c, .slice TA atts.length d] 29)) := (Below.refl _ _).alloc (Nat.le_refl _) _
  have hh0 := hh.alloc (.cells #[.slice SA segs.length c, .slice TA atts.length d] 29)
  generalize w.alloc (.cells #[.slice SA segs.length c, .slice TA atts.length d] 29) = w0 at *
  refine (checkHistory_any _ _ _ _ _ segs atts _ hh0 hz.hc hz.h9 hz.h8 hz.h7 hz.h6).mono ?_
  rintro e w1 ⟨rfl, hb1⟩
  have hx1 := hb0.trans (hb1.mono hb0.size)
  clear hb1 hb0 hh0 hh
  generalize he : histF segs atts = ef at *
  have HE := Lib.hid he
  clear he
  go_wp2_with fail
  go_returns
  exact ⟨by first | (rw [HE.out]; done) | (rw [HE.out]; rfl) | rfl, hx1⟩
set_option maxHeartbeats 1000000 in
theorem Losses_bad (SA TA : Option Addr) (c d lo : Nat) (segs : List (List UInt8)) (atts : List Att) (w : World) (hh : Hist w lo SA TA segs atts) (hz : HistSz segs atts c) (hf : histF segs atts ≠ 0) :
    Calls Tryz.prog 11 #[.agg #[.slice SA segs.length c, .slice TA atts.length d]] w fun e w' => e = .returned (.tuple #[.slice none 0 0, .int .i64 (histF segs atts)]) ∧ Below w.heap.size w w' := by
  have d5 : (histF segs atts != 0) = true := by simpa using hf
  clear hf
  go_enter Tryz.func11, Tryz.ntmps11
  go_wp2_with fail
  have hb0 : Below w.heap.size w (w.alloc (.cells #[.slice SA segs.length c, .slice TA atts.length d] 29)) := (Below.refl _ _).alloc (Nat.le_refl _) _
  have hh0 := hh.alloc (.cells #[.slice SA segs.length c, .slice TA atts.length d] 29)
  generalize w.alloc (.cells #[.slice SA segs.length c, .slice TA atts.length d] 29) = w0 at *
  refine (checkHistory_any _ _ _ _ _ segs atts _ hh0 hz.hc hz.h9 hz.h8 hz.h7 hz.h6).mono ?_
  rintro e w1 ⟨rfl, hb1⟩
  have hx1 := hb0.trans (hb1.mono hb0.size)
  clear hb1 hb0 hh0 hh
  generalize he : histF segs atts = ef at *
  have HE := Lib.hid he
  clear he
  go_wp2_with fail
  go_returns
  exact ⟨by first | (rw [HE.out]; done) | (rw [HE.out]; rfl) | rfl, hx1⟩
set_option maxHeartbeats 1000000 in
theorem Finishes_bad (SA TA : Option Addr) (c d lo : Nat) (segs : List (List UInt8)) (atts : List Att) (w : World) (hh : Hist w lo SA TA segs atts) (hz : HistSz segs atts c) (hf : histF segs atts ≠ 0) :
    Calls Tryz.prog 12 #[.agg #[.slice SA segs.length c, .slice TA atts.length d]] w fun e w' => e = .returned (.tuple #[.agg #[.int .i64 0, .int .i64 0], .bool false, .int .i64 (histF segs atts)]) ∧ Below w.heap.size w w' := by
  have d5 : (histF segs atts != 0) = true := by simpa using hf
  clear hf
  go_enter Tryz.func12, Tryz.ntmps12
  go_wp2_with fail
  have kR : Blk ((w.alloc (.cells #[.slice SA segs.length c, .slice TA atts.length d] 29)).alloc (.cells #[.int .i64 0, .int .i64 0] 41)) (w.heap.size + 1) 41 #[.int .i64 0, .int .i64 0] := by
    have := Blk.new (w.alloc (.cells #[.slice SA segs.length c, .slice TA atts.length d] 29)) 41 #[.int .i64 0, .int .i64 0]
    simpa using this
  have hx : Below w.heap.size w ((w.alloc (.cells #[.slice SA segs.length c, .slice TA atts.length d] 29)).alloc (.cells #[.int .i64 0, .int .i64 0] 41)) := ((Below.refl _ _).alloc (Nat.le_refl _) _).alloc (by simp) _
  have hh := (hh.alloc (.cells #[.slice SA segs.length c, .slice TA atts.length d] 29)).alloc (.cells #[.int .i64 0, .int .i64 0] 41)
  generalize (w.alloc (.cells #[.slice SA segs.length c, .slice TA atts.length d] 29)).alloc (.cells #[.int .i64 0, .int .i64 0] 41) = w0 at *
  refine (checkHistory_any SA TA c d _ segs atts _ hh hz.hc hz.h9 hz.h8 hz.h7 hz.h6).mono ?_
  rintro e w1 ⟨rfl, hb⟩
  generalize he : histF segs atts = ef at *
  have HE := Lib.hid he
  clear he
  have kR := kR.below hb
  have hx := below_up hx hb
  clear hb
  obtain ⟨r0, r1⟩ := kR.two_
  have rz := kR.lt
  have rf0 := kR.thaw 0
  have rf1 := kR.thaw 1
  obtain ⟨z0, z1, z2⟩ := kR.two (.int .i64 0) (.int .i64 0)
  have HB := Lib.hid (Below.setCell (Below.setCell hx (p := ⟨w.heap.size + 1, 0, none⟩) (by simp) (.int .i64 0)) (p := ⟨w.heap.size + 1, 1, none⟩) (by simp) (.int .i64 0))
  clear hx kR
  go_wp2_with fail
  refine bodyPost_ret (v := .tuple #[.agg #[.int .i64 0, .int .i64 0], .bool false, .int .i64 ef]) (by simp [results, Tryz.results12, go_sem, z0, z1, z2]) rfl ?_
  exact ⟨by first | rfl | (rw [HE.out]; done) | (rw [HE.out]; rfl), HB.out⟩
set_option maxHeartbeats 1000000 in
theorem Chance_bad (SA TA : Option Addr) (c d lo : Nat) (t : Int) (segs : List (List UInt8)) (atts : List Att) (w : World) (hh : Hist w lo SA TA segs atts) (hz : HistSz segs atts c) (hf : histF segs atts ≠ 0) :
    Calls Tryz.prog 13 #[.agg #[.slice SA segs.length c, .slice TA atts.length d], .int .i64 t] w fun e w' => e = .returned (.tuple #[.agg #[.int .i64 0, .int .i64 0], .bool false, .int .i64 (histF segs atts)]) ∧ Below w.heap.size w w' := by
  have d5 : (histF segs atts != 0) = true := by simpa using hf
  clear hf
  go_enter Tryz.func13, Tryz.ntmps13
  go_wp2_with fail
  have kR : Blk ((w.alloc (.cells #[.slice SA segs.length c, .slice TA atts.length d] 29)).alloc (.cells #[.int .i64 0, .int .i64 0] 41)) (w.heap.size + 1) 41 #[.int .i64 0, .int .i64 0] := by
    have := Blk.new (w.alloc (.cells #[.slice SA segs.length c, .slice TA atts.length d] 29)) 41 #[.int .i64 0, .int .i64 0]
    simpa using this
  have hx : Below w.heap.size w ((w.alloc (.cells #[.slice SA segs.length c, .slice TA atts.length d] 29)).alloc (.cells #[.int .i64 0, .int .i64 0] 41)) := ((Below.refl _ _).alloc (Nat.le_refl _) _).alloc (by simp) _
  have hh := (hh.alloc (.cells #[.slice SA segs.length c, .slice TA atts.length d] 29)).alloc (.cells #[.int .i64 0, .int .i64 0] 41)
  generalize (w.alloc (.cells #[.slice SA segs.length c, .slice TA atts.length d] 29)).alloc (.cells #[.int .i64 0, .int .i64 0] 41) = w0 at *
  refine (checkHistory_any SA TA c d _ segs atts _ hh hz.hc hz.h9 hz.h8 hz.h7 hz.h6).mono ?_
  rintro e w1 ⟨rfl, hb⟩
  generalize he : histF segs atts = ef at *
  have HE := Lib.hid he
  clear he
  have kR := kR.below hb
  have hx := below_up hx hb
  clear hb
  obtain ⟨r0, r1⟩ := kR.two_
  have rz := kR.lt
  have rf0 := kR.thaw 0
  have rf1 := kR.thaw 1
  obtain ⟨z0, z1, z2⟩ := kR.two (.int .i64 0) (.int .i64 0)
  have HB := Lib.hid (Below.setCell (Below.setCell hx (p := ⟨w.heap.size + 1, 0, none⟩) (by simp) (.int .i64 0)) (p := ⟨w.heap.size + 1, 1, none⟩) (by simp) (.int .i64 0))
  clear hx kR
  go_wp2_with fail
  refine bodyPost_ret (v := .tuple #[.agg #[.int .i64 0, .int .i64 0], .bool false, .int .i64 ef]) (by simp [results, Tryz.results13, go_sem, z0, z1, z2]) rfl ?_
  exact ⟨by first | rfl | (rw [HE.out]; done) | (rw [HE.out]; rfl), HB.out⟩
/-- What Chance tells at any time, of a right history. -/
def chA (segs : List (List UInt8)) (atts : List Att) (t : Int) : Int := if chF t ≠ 0 then 0 else if fullB (rowsQ atts segs.length) = true then frN (goodN atts segs.length t) (allN atts segs.length) else 0
def chB (segs : List (List UInt8)) (atts : List Att) (t : Int) : Int := if chF t ≠ 0 then 0 else if fullB (rowsQ atts segs.length) = true then frD (goodN atts segs.length t) (allN atts segs.length) else 0
def chT (segs : List (List UInt8)) (atts : List Att) (t : Int) : Bool := decide (chF t = 0) && fullB (rowsQ atts segs.length)
theorem Chance_un (SA TA : Option Addr) (c d lo : Nat) (t : Int) (segs : List (List UInt8)) (atts : List Att) (w : World) (hh : Hist w lo SA TA segs atts) (hc : segs.length ≤ c) (hok : HistOk segs atts) (h4 : segs.length ≤ 4) (h7 : atts.length ≤ 7) :
    Calls Tryz.prog 13 #[.agg #[.slice SA segs.length c, .slice TA atts.length d], .int .i64 t] w fun e w' => e = .returned (.tuple #[.agg #[.int .i64 (chA segs atts t), .int .i64 (chB segs atts t)], .bool (chT segs atts t), .int .i64 (chF t)]) ∧ Below w.heap.size w w' := by
  by_cases ht : t < 0 ∨ 864000000 < t
  · have h1 : chF t = 1 := by unfold chF; rw [if_pos ht]
    have e1 : chA segs atts t = 0 := by unfold chA; rw [h1, if_pos (by decide)]
    have e2 : chB segs atts t = 0 := by unfold chB; rw [h1, if_pos (by decide)]
    have e3 : chT segs atts t = false := by unfold chT; rw [h1]; rfl
    rw [e1, e2, e3, h1]
    exact Chance_arg SA TA c d lo t segs atts w hh hc hok ht
  · have h1 : chF t = 0 := by unfold chF; rw [if_neg ht]
    cases hf : fullB (rowsQ atts segs.length)
    · have e1 : chA segs atts t = 0 := by unfold chA; rw [h1, if_neg (by decide), if_neg (by rw [hf]; decide)]
      have e2 : chB segs atts t = 0 := by unfold chB; rw [h1, if_neg (by decide), if_neg (by rw [hf]; decide)]
      have e3 : chT segs atts t = false := by unfold chT; rw [h1, hf]; rfl
      rw [e1, e2, e3, h1]
      exact Chance_none SA TA c d lo t segs atts w hh hc hok (by omega) h4 h7 hf
    · have e1 : chA segs atts t = frN (goodN atts segs.length t) (allN atts segs.length) := by unfold chA; rw [h1, if_neg (by decide), if_pos hf]
      have e2 : chB segs atts t = frD (goodN atts segs.length t) (allN atts segs.length) := by unfold chB; rw [h1, if_neg (by decide), if_pos hf]
      have e3 : chT segs atts t = true := by unfold chT; rw [h1, hf]; rfl
      rw [e1, e2, e3, h1]
      exact Chance_full SA TA c d lo t segs atts w hh hc hok (by omega) h4 h7 hf
theorem chanceOf_un (SA TA : Option Addr) (c d lo : Nat) (t : Int) (segs : List (List UInt8)) (atts : List Att) (w : World) (hh : Hist w lo SA TA segs atts) (hok : HistOk segs atts) (h4 : segs.length ≤ 4) (h7 : atts.length ≤ 7) (h1 : chF t = 0) :
    Calls Tryz.prog 21 #[.agg #[.slice SA segs.length c, .slice TA atts.length d], .int .i64 t] w fun e w' => e = .returned (.tuple #[.agg #[.int .i64 (chA segs atts t), .int .i64 (chB segs atts t)], .bool (chT segs atts t)]) ∧ Below w.heap.size w w' := by
  refine (chanceOf_any SA TA c d lo t segs atts w hh hok h4 h7).mono ?_
  rintro e w' ⟨rfl, hb⟩
  refine ⟨?_, hb⟩
  cases hf : fullB (rowsQ atts segs.length)
  · have e1 : chA segs atts t = 0 := by unfold chA; rw [h1, if_neg (by decide), if_neg (by rw [hf]; decide)]
    have e2 : chB segs atts t = 0 := by unfold chB; rw [h1, if_neg (by decide), if_neg (by rw [hf]; decide)]
    have e3 : chT segs atts t = false := by unfold chT; rw [h1, hf]; rfl
    rw [e1, e2, e3]
    unfold coV
    rw [if_neg (by rw [hf]; decide)]
  · have e1 : chA segs atts t = frN (goodN atts segs.length t) (allN atts segs.length) := by unfold chA; rw [h1, if_neg (by decide), if_pos hf]
    have e2 : chB segs atts t = frD (goodN atts segs.length t) (allN atts segs.length) := by unfold chB; rw [h1, if_neg (by decide), if_pos hf]
    have e3 : chT segs atts t = true := by unfold chT; rw [h1, hf]; rfl
    rw [e1, e2, e3]
    unfold coV
    rw [if_pos hf]
end Go.Proofs.YtapjahbflhingaaGreatDoor
