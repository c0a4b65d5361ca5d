/- Texts of this seat, laid together: SgI MgP. -/
import Derived.Handy
import Derived.Test.YtapjahbflhingaaGreatDoorBu24
import Derived.Test.YtapjahbflhingaaGreatDoorBu23
/- The walk of Best at a right history; plain: the best and the sum of one attempt. -/
namespace Go.Proofs.YtapjahbflhingaaGreatDoor
set_option linter.unusedVariables false
set_option linter.unusedSimpArgs false
open Go.RowKit

def bT (n : Nat) (atts : List Att) : Int := if bI n atts atts.length < 0 then 0 else lastT (atts.getD (bI n atts atts.length).toNat (0, []))
def bN (n : Nat) (atts : List Att) : Int := if bI n atts atts.length < 0 then 0 else (atts.getD (bI n atts atts.length).toNat (0, [])).1
theorem bT_none {n : Nat} {atts : List Att} (h : bI n atts atts.length = -1) : bT n atts = 0 ∧ bN n atts = 0 ∧ decide (0 ≤ bI n atts atts.length) = false := by simp [bT, bN, h]
theorem bT_at {n : Nat} {atts : List Att} {j : Nat} (h : bI n atts atts.length = j) (hj : j < atts.length) (hn : atts[j].2.length = n) (h1 : n - 1 < n) : bT n atts = atts[j].2[n - 1]'(by omega) ∧ bN n atts = atts[j].1 ∧ decide (0 ≤ bI n atts atts.length) = true := by
  have hneg : ¬ ((j : Int) < 0) := by omega
  have e : atts.getD j (0, []) = atts[j] := by rw [List.getD_eq_getElem?_getD, List.getElem?_eq_getElem hj]; rfl
  refine ⟨?_, ?_, by rw [h]; simp⟩
  · unfold bT; rw [h, if_neg hneg, Int.toNat_natCast, e]; unfold lastT; simp only [List.getD_eq_getElem?_getD]; simp only [hn]; rw [List.getElem?_eq_getElem (by omega)]; rfl
  · unfold bN; rw [h, if_neg hneg, Int.toNat_natCast, e]
set_option maxHeartbeats 1000000 in
theorem Best_ok (SA TA : Option Addr) (c d lo : Nat) (segs : List (List UInt8)) (atts : List Att) (w : World) (hh : Hist w lo SA TA segs atts) (hc : segs.length ≤ c) (hok : HistOk segs atts) :
    Calls Tryz.prog 30 #[.agg #[.slice SA segs.length c, .slice TA atts.length d]] w fun e w' => e = .returned (.tuple #[.int .i64 (bT segs.length atts), .int .i64 (bN segs.length atts), .bool (decide (0 ≤ bI segs.length atts atts.length)), .int .i64 0]) ∧ Below w.heap.size w w' := by
  have HO := Lib.hid hok
  have n1 := hok.n1
  have n2 := hok.n2
  have hm := hok.m
  clear hok
  go_enter Tryz.func30, Tryz.ntmps30
  go_wp2_with fail
  have hb0 : Below w.heap.size w (w.alloc (.cells #[.slice SA segs.length c, .slice TA atts.length d] 29)) := (Below.refl _ _).alloc (Nat.le_refl _) _
  have hk0 : Blk (w.alloc (.cells #[.slice SA segs.length c, .slice TA atts.length d] 29)) w.heap.size 29 #[.slice SA segs.length c, .slice TA atts.length d] := Blk.new _ _ _
  have hh0 := hh.alloc (.cells #[.slice SA segs.length c, .slice TA atts.length d] 29)
  generalize w.alloc (.cells #[.slice SA segs.length c, .slice TA atts.length d] 29) = w0 at *
  refine (checkHistory_ok _ _ _ _ _ segs atts _ hh0 hc HO.out).mono ?_
  rintro e w1 ⟨rfl, hb1⟩
  have hh1 := hh0.below hb1
  have hk1 := hk0.below hb1
  have hx1 := hb0.trans (hb1.mono hb0.size)
  clear hb1 hb0 hh0 hk0 hh
  go_wp2_with fail
  refine (best_ok _ _ _ _ _ _ segs atts _ hk1 hh1 n1 n2 (by omega)).mono ?_
  rintro e w2 ⟨rfl, hb2⟩
  have hh2 := hh1.below hb2
  have hk2 := hk1.below hb2
  have hx2 := hx1.trans (hb2.mono hx1.size)
  clear hb2 hx1 hh1 hk1
  rcases bI_inv segs.length atts atts.length (Nat.le_refl _) with h | ⟨j, hj, h, hjk, hn⟩
  · obtain ⟨e1, e2, e3⟩ := bT_none h
    have E1 := Lib.hid e1
    have E2 := Lib.hid e2
    have E3 := Lib.hid e3
    rw [h]
    clear e1 e2 e3 h
    go_wp2_with fail
    go_returns
    exact ⟨by rw [E1.out, E2.out, E3.out], hx2⟩
  · obtain ⟨e1, e2, e3⟩ := bT_at h hj hn (by omega)
    rw [h]
    obtain ⟨tb, tO, B, cc, rfl, ztb, t0, t1, hrB⟩ := hh2.att hj
    have c1 : w2.cell? ⟨w.heap.size, 1, none⟩ = some (.slice (some ⟨tb, tO, none⟩) atts.length d) := by simpa using hk2.cell 1
    have zh := hk2.lt
    obtain ⟨l, hl⟩ : ∃ l, segs.length - 1 = l := ⟨_, rfl⟩
    have hl1 : l < atts[j].2.length := by omega
    obtain ⟨b1, o1, rfl, _, zb, x0⟩ := hrB.int_at hl1
    have ex : atts[j].2[segs.length - 1]'(by omega) = atts[j].2[l] := by congr 1
    rw [ex] at e1
    have E1 := Lib.hid e1
    have E2 := Lib.hid e2
    have E3 := Lib.hid e3
    clear ex e1 e2 e3 h hrB
    generalize atts[j].2[l] = x at *
    rw [hn] at t1
    generalize atts[j].1 = no at *
    have q0 : ¬ ((j : Int) < 0) := by omega
    have wl : IntKind.i64.wrap ((segs.length : Int) - 1) = (l : Int) := by rw [IntWalk.i64_in _ ⟨by omega, by omega⟩]; omega
    have hln : l < segs.length := by omega
    clear hn hl hl1 hh2
    go_wp2_with fail
    go_quiet (fail)
    go_wp2_with fail
    go_returns
    exact ⟨by rw [E1.out, E2.out, E3.out], below_drewN' (hx2.alloc (Nat.le_trans (Nat.le_refl _) hx2.size) _) _⟩

end Go.Proofs.YtapjahbflhingaaGreatDoor
/- Plain laws of merged histories, and of histories without a segment; no program in sight. -/
namespace Go.Proofs.YtapjahbflhingaaGreatDoor
set_option linter.unusedVariables false
set_option linter.unusedSimpArgs false
open Go.RowKit

/-! ### without a segment -/
end Go.Proofs.YtapjahbflhingaaGreatDoor
