/- Texts of this seat, laid together: Rv. -/
import Derived.Test.YtlinbaojkmcbeaaGreatDoorBv33
import Derived.Test.YtlinbaojkmcbeaaGreatDoorBv20
/- The walk of RightVideo. -/
namespace Go.Proofs.YtlinbaojkmcbeaaGreatDoor
set_option linter.unusedVariables false
set_option linter.unusedSimpArgs false
open Go.RowKit

def RvPost (w : World) (g N : Nat) (e : Ending) (w' : World) : Prop :=
  ∃ (A : Option Addr) (c : Nat) (v : List St) (B : Option Addr) (d : Nat) (l : List Mk), e = .returned (.tuple #[.slice A v.length c, .slice B l.length d]) ∧ Row w' w.heap.size 3 A v.length (trs v) ∧ Row w' w.heap.size 2 B l.length (prs l) ∧ v.length ≤ 4 ∧ l.length ≤ 20 ∧ mkFault v l = 0 ∧ (∀ s ∈ v, s.2.1 ≤ 9223372036854775807) ∧ Str w' g N ∧ w.grownBy w' (some g)
theorem rv_ex : mkFault [(10, 10, 1)] [(0, 1), (10, 2)] = 0 := by decide

set_option maxHeartbeats 2000000 in
theorem rightVideo_any (g N : Nat) (w : World) (hs : Str w g N) (hN : N < 4611686018427380000) :
    Calls Tryz.prog 16 #[.pointer (some ⟨g, 0, none⟩)] w (RvPost w g (N + 900)) := by
  have hlt := hs.lt
  go_enter Tryz.func16, Tryz.ntmps16
  go_wp2_with fail
  go_loopw [6] (fun i wr => ∃ (k : Nat), k ≤ 8 ∧ i = .int .i64 k ∧ Str wr g (N + 100 * k) ∧ w.grownBy wr (some g)) (fun i _ => 8 - (intOf i).toNat)
  case atStart => exact ⟨0, by omega, rfl, hs, World.grownBy.refl _ _⟩
  case round =>
    obtain ⟨k, hk, rfl, hsr, hgr⟩ := hrel
    have zr := hgr.size
    by_cases hk8 : k < 8
    · go_wp2_with fail
      refine (video_any g _ _ hsr (by omega)).mono ?_
      rintro e w1 ⟨Ax, cx, v, rfl, hown1, hv4, hvi, hs1, hg1⟩
      have HI := Lib.hid hvi
      have hrow1 := (Row.of_own hown1).weak (show w.heap.size ≤ wr.heap.size from zr)
      have hx1 := grown_trans' hgr hg1
      have z1 := hx1.size
      clear hown1 hvi hg1
      go_wp2_with fail
      refine (marks_any g _ _ _ _ v _ hs1 (by omega) hrow1 (by omega) HI.out).mono ?_
      rintro e w2 ⟨Am, cm, m, rfl, hown2, hm20, hs2, hg2⟩
      have hrow2 := hrow1.grown hg2 (by omega)
      have hmk2 := (Row.of_own hown2).weak z1
      have hx2 := grown_trans' hx1 hg2
      have z2 := hx2.size
      clear hown2 hg2 hrow1 hs1
      go_wp2_with fail
      refine (marksFault_any _ _ _ _ _ _ v m _ hrow2 hmk2 (by omega) (by omega) HI.out).mono ?_
      rintro e w3 ⟨rfl, hb3⟩
      have hrow3 := hrow2.below hb3
      have hmk3 := hmk2.below hb3
      have hx3 := grown_trans' hx2 (grown_of_below hb3 (some g))
      have hs3 := hs2.keep hb3
      clear hb3 hrow2 hmk2 hs2
      by_cases h0 : mkFault v m = 0
      · have H0 := Lib.hid h0
        rw [h0]
        clear h0
        go_wp2_with fail
        go_ret2
        exact ⟨Ax, cx, v, Am, cm, m, rfl, hrow3, hmk3, hv4, hm20, H0.out, HI.out, hs3.more (by omega), hx3⟩
      · have h0' : (mkFault v m == 0) = false := by simpa using h0
        clear h0
        go_wp2_with fail
        go_roundw
        case rel => exact ⟨k + 1, by omega, by go_num, hs3.more (by omega), hx3⟩
        case measure => simp [intOf]; omega
    · go_wp2_with fail
      go_ret2
      refine ⟨_, _, [(10, 10, 1)], _, _, [(0, 1), (10, 2)], rfl, ?_, ?_, by simp, by simp, rv_ex, by decide, ((hsr.alloc _).alloc _).more (by omega), grown_alloc (grown_alloc hgr _) _⟩
      · exact Row.alloc (row_new' _ (by simp) (by omega) rfl) _
      · exact row_new' _ (by simp) (by simp; omega) rfl
end Go.Proofs.YtlinbaojkmcbeaaGreatDoor
