/- Texts of this seat, laid together: LawCutsKeepFrames. -/
import Derived.Test.YtiigmolppcaplaaGreatBu03
import Derived.Test.YtiigmolppcaplaaGreatBu01
import Derived.Test.YtiigmolppcaplaaGreatBu27
/- For every list of numbers the law CutsKeepFrames returns true and leaves the list as it was: its walk. -/
namespace Go.Proofs.YtiigmolppcaplaaGreat
set_option linter.unusedVariables false
set_option linter.unusedSimpArgs false
open Go.RowKit

set_option maxHeartbeats 4000000 in
set_option maxRecDepth 100000 in
theorem cuts_walk (A : Option Addr) (n c : Nat) (w : World) (hn : n ≤ 9223372036854775807)
    (hz : ∀ k, k < n → ∃ b off z, A = some ⟨b, off, none⟩ ∧ b < w.heap.size ∧ w.cell? ⟨b, off + k, none⟩ = some (.int .i64 z) ∧ I64 z) :
    LawCall 6 A n c w := by
  have hstr := str_make (c := c) hn hz
  clear hz
  go_enter Tryz.func6, Tryz.ntmps6
  go_wp2_with fail
  refine (rightPieces_any w.heap.size 0 _ hstr (by omega)).mono ?_
  rintro e w1 ⟨Ax, cx, ps, rfl, hown1, hps8, hall, hs1, hg1⟩
  have hb1 : Below w.heap.size w w1 := ((Below.refl _ _).alloc (Nat.le_refl _) _).grown hg1 (by simp) (fun k hk => by injection hk with hk; omega)
  have hrow1 := Row.of_own hown1
  rw [World.size_alloc] at hrow1
  have hl : ps.length ≤ 1000000000 := by omega
  have z1 := hs1.lt
  have HA := Lib.hid hall
  obtain ⟨f0, hul, _⟩ := pieces_ok ps hall hps8
  have H0 := Lib.hid f0
  have HFR := Lib.hid (framesR_ok f0)
  clear hown1 hg1 hstr hall f0
  go_wp2_with fail
  refine (framesF_any _ _ _ ps _ hrow1 hl).mono ?_
  rintro e w2 ⟨rfl, hb2⟩
  have hrow2 := hrow1.below hb2
  have hx2 := below_up hb1 hb2
  have hs2 := hs1.keep hb2
  rw [H0.out, HFR.out]
  clear hb2 hrow1 hb1 hs1
  go_wp2_with fail
  refine (next_any w.heap.size _ _ _ hs2 (by omega) (by omega)).mono ?_
  rintro e w3 ⟨r, rfl, r0, r1, _, hs3, hg3⟩
  have r2 := r1 (by omega)
  obtain ⟨k, rfl⟩ := Int.eq_ofNat_of_zero_le r0
  have hk : k ≤ (unf ps).length := by omega
  have hx3 : Below w.heap.size w w3 := hx2.grown hg3 hx2.size (fun k hk => by injection hk with hk; omega)
  have hrow3 := hrow2.grown hg3 (by omega)
  have HK := Lib.hid (kept ps k HA.out hps8 hk)
  clear hg3 hx2 hrow2 hs2 hs3 r0 r1
  go_wp2_with fail
  refine (cut_any _ _ _ ps 0 k _ hrow3 hl).mono ?_
  rintro e w4 ⟨Aa, ca, rfl, hra4, hb4⟩
  have hrow4 := hrow3.below hb4
  have hx4 := below_up hx3 hb4
  rw [HK.out.a1]
  clear hb4 hx3 hrow3
  go_wp2_with fail
  refine (cut_any _ _ _ ps k (unf ps).length _ hrow4 hl).mono ?_
  rintro e w5 ⟨Ab, cb, rfl, hrb5, hb5⟩
  have hrow5 := hrow4.below hb5
  have hra5 := hra4.below hb5
  have hx5 := below_up hx4 hb5
  rw [HK.out.b1]
  clear hb5 hx4 hrow4 hra4
  have la := HK.out.la
  have lb := HK.out.lb
  go_wp2_with fail
  refine (splice_any _ _ _ _ _ _ _ _ k _ hra5 hrb5 (by omega) (by omega)).mono ?_
  rintro e w6 ⟨Ac, cc, rfl, hrc6, hb6⟩
  have hrow6 := hrow5.below hb6
  have hx6 := below_up hx5 hb6
  rw [HK.out.s1]
  rw [HK.out.s2] at hrc6 ⊢
  clear hb6 hx5 hrow5 hra5 hrb5
  go_wp2_with fail
  refine (tidyF_any _ _ _ ps _ hrow6 hl).mono ?_
  rintro e w7 ⟨At, ct, rfl, hrt7, hb7⟩
  have hrow7 := hrow6.below hb7
  have hrc7 := hrc6.below hb7
  have hx7 := below_up hx6 hb7
  have lt := HK.out.lt
  rw [H0.out]
  clear hb7 hx6 hrow6 hrc6
  go_wp2_with fail
  refine (equalP_any _ _ _ _ _ _ _ _ _ hrc7 hrt7 (by omega) (by omega)).mono ?_
  rintro e w8 ⟨rfl, q, rfl⟩
  rw [decide_eq_true rfl]
  have hrow8 := Row.drewN hrow7 q
  have hrt8 := Row.drewN hrt7 q
  have hx8 := below_drewN' hx7 q
  clear hrow7 hrt7 hx7 hrc7
  go_wp2_with fail
  refine (differ_any _ _ _ _ _ _ ps _ _ hrow8 hrt8 hl (by omega)).mono ?_
  rintro e w9 ⟨rfl, hb9⟩
  have hx9 := below_up hx8 hb9
  rw [HK.out.d1, HK.out.d2]
  go_wp2_with fail
  refine (ready_any _).mono ?_
  rintro e w10 ⟨rfl, hb10⟩
  go_wp2_with fail
  go_ret
  exact ⟨rfl, below_up hx9 hb10⟩
end Go.Proofs.YtiigmolppcaplaaGreat
