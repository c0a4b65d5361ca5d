/- The walks of Doubt and DoubtOf. -/
import Derived.Test.YtgkjpcapoofphaaMkK
namespace Go.Proofs.Ytgkjpcapoofphaa
open Go.RowKit

def duE (d : Int) (v : List St) (l : List Mk) : Int := if mkFault v l = 0 then msM (multK v) (pS v (shM (fsum v) d l).2 false ((shM (fsum v) d l).2.length - 1)) else 0
theorem duE_ok {d : Int} {v : List St} {l : List Mk} (h : mkFault v l = 0) : duE d v l = msM (multK v) (pS v (shM (fsum v) d l).2 false ((shM (fsum v) d l).2.length - 1)) := by simp [duE, h]
theorem duE_bad {d : Int} {v : List St} {l : List Mk} (h : ¬ mkFault v l = 0) : duE d v l = 0 := by simp [duE, h]
theorem ret3i {a b c x y z : Value} (h1 : a = x) (h2 : b = y) (h3 : c = z) : Ending.returned (.tuple #[a, b, c]) = .returned (.tuple #[x, y, z]) := by rw [h1, h2, h3]
/-- What the shifted marks are. -/
theorem sh_facts {v : List St} {l : List Mk} (hg : Good v) (h : mkF (fsum v) l = 0) (d : Int) : (shM (fsum v) d l).2.length ≤ 500 ∧ Rises (shM (fsum v) d l).2 ∧ (∀ x ∈ (shM (fsum v) d l).2, 0 ≤ x.1 ∧ x.1 ≤ 1000000000000) ∧ 0 < (tS v (shM (fsum v) d l).2).2.2.length ∧ 0 < (shM (fsum v) d l).2.length ∧ (tS v (shM (fsum v) d l).2).2.2.getLastD 0 = msM (multK v) (pS v (shM (fsum v) d l).2 false ((shM (fsum v) d l).2.length - 1)) := by
  have hm := mkF_ok h
  have s0 := fsum_nonneg v hg.nonneg
  have s1 := hg.sum
  have i := sh_all (d := d) (mkF_turn h) s0
  have h2 : lastM (shM (fsum v) d l).2 = 2 := i.kind.trans hm.2.1
  have hmem := last_mem _ h2
  refine ⟨by have := i.len; omega, i.rises, fun x hx => by have := i.bd x hx; have := i.last; omega, tS_some v _ hmem, ?_, time_law v i.turn h2⟩
  obtain ⟨x, hx, _⟩ := hmem
  exact List.length_pos_of_mem hx

set_option maxHeartbeats 1000000 in
theorem doubt_any (lo lo' c d : Nat) (A B : Option Addr) (v : List St) (l : List Mk) (w : World) (hr : Row w lo 3 A v.length (trs v)) (hrm : Row w lo' 2 B l.length (prs l)) (hl : v.length ≤ 1000000000) (hlm : l.length ≤ 1000000000) (hi : ∀ s ∈ v, s.2.1 ≤ 9223372036854775807) :
    Calls Try.prog 39 #[.slice A v.length c, .slice B l.length d] w fun e w' => e = .returned (.tuple #[.int .i64 (duE (-1) v l), .int .i64 (duE 1 v l), .int .i64 (mkFault v l)]) ∧ Below w.heap.size w w' := by
  go_enter Try.func39, Try.ntmps39
  go_wp2_with fail
  refine (checkMarks_any lo lo' _ _ _ _ v l _ hr hrm hl hlm hi).mono ?_
  rintro e w1 ⟨rfl, hb1⟩
  clear hi
  by_cases h0 : mkFault v l = 0
  · have h0' : (mkFault v l != 0) = false := by simpa using h0
    obtain ⟨hv, hm⟩ := mkFault_zero h0
    have HG := Lib.hid (vFault_ok hv)
    have HM := Lib.hid (mkF_ok hm)
    have H0 := Lib.hid h0
    have HT := Lib.hid (mkF_turn hm)
    have HA := Lib.hid (sh_facts HG.out hm (-1))
    have HB := Lib.hid (sh_facts HG.out hm 1)
    have HDA := Lib.hid (duE_ok (d := -1) h0)
    have HDB := Lib.hid (duE_ok (d := 1) h0)
    clear h0 hv hm
    have hln := HM.out.1
    have hsum := HG.out.sum
    go_wp2_with fail
    refine (newFilm_any _ _ _ v _ (hr.below hb1) HG.out).mono ?_
    rintro e w2 ⟨g, rfl, hfm, hb2⟩
    have hx2 := below_up hb1 hb2
    clear hb1 hb2
    go_wp2_with fail
    refine (shiftedF_any g lo lo' _ _ _ _ v l (-1) _ hfm (hrm.below hx2) HG.out (by omega) HT.out (fun x hx => by have := HM.out.2.2.1 x hx; omega) (by omega) (by omega)).mono ?_
    rintro e w3 ⟨A3, c3, rfl, hown3, hb3⟩
    have hx3 := below_up hx2 hb3
    have hf3 := hfm.below hb3
    clear hx2 hb3 hfm
    go_wp2_with fail
    refine (end_any g lo _ _ _ _ _ v _ _ hf3 (Row.of_own hown3) HG.out HA.out.1 HA.out.2.1 HA.out.2.2.1 HA.out.2.2.2.1).mono ?_
    rintro e w4 ⟨rfl, hb4⟩
    rw [HA.out.2.2.2.2.2]
    have hx4 := below_up hx3 hb4
    have hf4 := hf3.below hb4
    clear hx3 hb4 hf3 hown3
    go_wp2_with fail
    refine (shiftedF_any g lo lo' _ _ _ _ v l 1 _ hf4 (hrm.below hx4) HG.out (by omega) HT.out (fun x hx => by have := HM.out.2.2.1 x hx; omega) (by omega) (by omega)).mono ?_
    rintro e w5 ⟨A5, c5, rfl, hown5, hb5⟩
    have hx5 := below_up hx4 hb5
    have hf5 := hf4.below hb5
    clear hx4 hb5 hf4
    go_wp2_with fail
    refine (end_any g lo _ _ _ _ _ v _ _ hf5 (Row.of_own hown5) HG.out HB.out.1 HB.out.2.1 HB.out.2.2.1 HB.out.2.2.2.1).mono ?_
    rintro e w6 ⟨rfl, hb6⟩
    rw [HB.out.2.2.2.2.2]
    have hx6 := below_up hx5 hb6
    rw [← HDA.out, ← HDB.out]
    go_wp2_with fail
    go_ret3
    exact ⟨ret3i rfl rfl (by rw [H0.out]; rfl), hx6⟩
  · have h0' : (mkFault v l != 0) = true := by simpa using h0
    have HDA := Lib.hid (duE_bad (d := -1) h0)
    have HDB := Lib.hid (duE_bad (d := 1) h0)
    clear h0
    go_wp2_with fail
    go_ret3
    exact ⟨ret3i (by rw [HDA.out]; rfl) (by rw [HDB.out]; rfl) rfl, hb1⟩

set_option maxHeartbeats 1000000 in
theorem doubtOf_any (lo lo' c d : Nat) (A B : Option Addr) (v : List St) (l : List Mk) (w : World) (hr : Row w lo 3 A v.length (trs v)) (hrm : Row w lo' 2 B l.length (prs l)) (h0 : mkFault v l = 0) :
    Calls Try.prog 41 #[.slice A v.length c, .slice B l.length d] w fun e w' => e = .returned (.tuple #[.int .i64 (duE (-1) v l), .int .i64 (duE 1 v l)]) ∧ Below w.heap.size w w' := by
  obtain ⟨hv, hm⟩ := mkFault_zero h0
  have HG := Lib.hid (vFault_ok hv)
  have HM := Lib.hid (mkF_ok hm)
  have HT := Lib.hid (mkF_turn hm)
  have HA := Lib.hid (sh_facts HG.out hm (-1))
  have HB := Lib.hid (sh_facts HG.out hm 1)
  have HDA := Lib.hid (duE_ok (d := -1) h0)
  have HDB := Lib.hid (duE_ok (d := 1) h0)
  clear h0 hv hm
  have hln := HM.out.1
  have hsum := HG.out.sum
  go_enter Try.func41, Try.ntmps41
  go_wp2_with fail
  refine (shiftedR_any lo lo' _ _ _ _ v l 1 (-1) _ hr hrm HG.out (by omega) HT.out (fun x hx => by have := HM.out.2.2.1 x hx; omega) (by omega) (by omega) (by omega)).mono ?_
  rintro e w3 ⟨A3, c3, rfl, hown3, hb3⟩
  go_wp2_with fail
  refine (timeOf_any lo _ _ _ _ _ v _ false _ (hr.below hb3) (Row.of_own hown3) HG.out HA.out.1 HA.out.2.1 HA.out.2.2.1 HA.out.2.2.2.2.1).mono ?_
  rintro e w4 ⟨rfl, hb4⟩
  have hx4 := below_up hb3 hb4
  clear hb3 hb4 hown3
  go_wp2_with fail
  refine (shiftedR_any lo lo' _ _ _ _ v l (-1) 1 _ (hr.below hx4) (hrm.below hx4) HG.out (by omega) HT.out (fun x hx => by have := HM.out.2.2.1 x hx; omega) (by omega) (by omega) (by omega)).mono ?_
  rintro e w5 ⟨A5, c5, rfl, hown5, hb5⟩
  have hx5 := below_up hx4 hb5
  clear hx4 hb5
  go_wp2_with fail
  refine (timeOf_any lo _ _ _ _ _ v _ false _ (hr.below hx5) (Row.of_own hown5) HG.out HB.out.1 HB.out.2.1 HB.out.2.2.1 HB.out.2.2.2.2.1).mono ?_
  rintro e w6 ⟨rfl, hb6⟩
  have hx6 := below_up hx5 hb6
  rw [← HDA.out, ← HDB.out]
  go_wp2_with fail
  go_ret2
  exact ⟨ret2_is rfl rfl, hx6⟩
end Go.Proofs.Ytgkjpcapoofphaa
