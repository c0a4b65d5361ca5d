/- Texts of this seat, laid together: LawVideosComeBack. -/
import Derived.Handy
import Derived.Test.YtlinbaojkmcbeaaGreatDoorBv29
import Derived.Test.YtlinbaojkmcbeaaGreatDoorBv35
import Derived.Test.YtlinbaojkmcbeaaGreatDoorBv20
import Derived.Test.YtlinbaojkmcbeaaGreatDoorBv46
/- For every list of numbers the law VideosComeBack returns true and leaves the list as it was: its walk. -/
namespace Go.Proofs.YtlinbaojkmcbeaaGreatDoor
set_option linter.unusedVariables false
set_option linter.unusedSimpArgs false
open Go.RowKit Go.Sort

set_option maxHeartbeats 8000000 in
set_option maxRecDepth 100000 in
theorem vidback_walk (A : Option Addr) (n c : Nat) (w : World) (hn : n ≤ 9223372036854775807)
    (hz : ∀ k, k < n → ∃ b off z, A = some ⟨b, off, none⟩ ∧ b < w.heap.size ∧ w.cell? ⟨b, off + k, none⟩ = some (.int .i64 z) ∧ I64 z) (hE : Env w) :
    LawCall 4 A n c w := by
  have hstr := str_make (c := c) hn hz
  clear hz
  have hx : Below w.heap.size w (w.alloc (.cells #[.slice A n c, .int .i64 0] 25)) := (Below.refl _ _).alloc (Nat.le_refl _) _
  have hz0 : (w.alloc (.cells #[.slice A n c, .int .i64 0] 25)).heap.size = w.heap.size + 1 := by simp
  have HEB := Lib.hid (EnvB.of hE)
  clear hE
  go_enter Tryz.func4, Tryz.ntmps4
  go_wp2_with fail
  generalize w.alloc (.cells #[.slice A n c, .int .i64 0] 25) = w0 at *
  have HZ0 := Lib.hid hz0
  have hgl : w.heap.size < w0.heap.size := by omega
  clear hz0
  refine (rightVideo_any w.heap.size 0 _ hstr (by omega)).mono ?_
  rintro e w1 ⟨VA, c', v, MB, d', l, rfl, hrv, hrm, hl4, hl20, hf, hi, hs1, hg1⟩
  replace hx := hx.grown hg1 (by omega) (fun k hk => by injection hk with hk; omega)
  have hln := vidT_len (vid_ok hf)
  have HF := Lib.hid hf
  have HCM := Lib.hid (video_comes hf)
  have HTV := Lib.hid (vTextV_ok hf)
  have HVI := Lib.hid hi
  clear hstr hg1 hf hi
  go_wp2_with fail
  refine (vText_any VA MB c' d' _ _ v l _ hrv hrm (by omega) (by omega) HVI.out (HEB.out _ hx)).mono ?_
  rintro e w2 ⟨rfl, hb⟩
  rw [HTV.out]
  replace hrv := hrv.below hb
  replace hrm := hrm.below hb
  replace hs1 := hs1.keep hb
  replace hx := below_up hx hb
  clear hb HTV HF
  generalize vidT v l = T at *
  go_wp2_with fail
  refine (vRead_any T _ (by omega) (HEB.out _ hx)).mono ?_
  rintro e w3 ⟨X, cx, Y, cy, rfl, hrx, hry, hb⟩
  rw [HCM.out] at hrx hry
  rw [HCM.out]
  dsimp only at *
  replace hrv := hrv.below hb
  replace hrm := hrm.below hb
  replace hs1 := hs1.keep hb
  replace hx := below_up hx hb
  clear hb HCM
  go_wp2_with fail
  refine (equalT_any X VA cx c' _ _ v v _ hrx hrv (by omega) rfl).mono ?_
  rintro e w4 ⟨rfl, qn, rfl⟩
  have hb := below_drewN' (Below.refl w3.heap.size w3) qn
  replace hrm := hrm.below hb
  replace hry := hry.below hb
  replace hs1 := hs1.keep hb
  replace hx := below_up hx hb
  clear hb hrx hrv
  generalize w3.drewN qn = w4 at *
  go_wp2_with fail
  refine (equalM_any Y MB cy d' _ _ l l _ hry hrm (by omega) (by omega)).mono ?_
  rintro e w5 ⟨rfl, qm, rfl⟩
  rw [decide_eq_true (show l = l from rfl)]
  have hb := below_drewN' (Below.refl w4.heap.size w4) qm
  replace hs1 := hs1.keep hb
  replace hx := below_up hx hb
  clear hb hry hrm
  generalize w4.drewN qm = w5 at *
  go_wp2_with fail
  refine (videoString_any w.heap.size _ w.heap.size _ hs1 (by omega) (HEB.out.below hx) (Nat.le_refl _)).mono ?_
  rintro e w7 ⟨r, rfl, hr, hs2, hg2⟩
  replace hx := hx.grown hg2 hx.size (fun k hk => by injection hk with hk; omega)
  clear hs1 hg2 hs2
  go_wp2_with fail
  refine (vRead_any r _ hr (HEB.out _ hx)).mono ?_
  rintro e w8 ⟨X, cx, Y, cy, rfl, hrx, hry, hb⟩
  replace hx := below_up hx hb
  clear hb
  by_cases he : (readVd r).2.2.2 = 0
  · obtain ⟨g1, g2, g3⟩ := video_text he
    have HTV := Lib.hid (vTextV_ok g1)
    have HTX := Lib.hid g2
    have hvo := vid_ok g1
    have HSI : Hid (∀ s ∈ (readVd r).1, s.2.1 ≤ 9223372036854775807) := Lib.hid (fun s hs => by have := hvo.sts s hs; omega)
    have hvl := hvo.vl
    have hml := hvo.ml
    rw [he]
    clear he g1 g2 hvo
    generalize (readVd r).1 = S at *
    generalize (readVd r).2.1 = Q at *
    generalize (readVd r).2.2.1 = ln at *
    go_wp2_with fail
    refine (vText_any X Y cx cy _ _ S Q _ hrx hry (by omega) (by omega) HSI.out (HEB.out _ hx)).mono ?_
    rintro e w9 ⟨rfl, hb⟩
    rw [HTV.out, HTX.out]
    replace hx := below_up hx hb
    clear hb
    have eq : (r == r) = true := by simp
    go_wp2_with fail
    refine (ready_any _).mono ?_
    rintro e w11 ⟨rfl, hb⟩
    go_wp2_with fail
    go_ret
    exact ⟨rfl, below_up hx hb⟩
  · have dn : ((readVd r).2.2.2 == 0) = false := by simpa using he
    clear he
    generalize (readVd r).1 = S at *
    generalize (readVd r).2.1 = Q at *
    generalize (readVd r).2.2.1 = ln at *
    generalize (readVd r).2.2.2 = en at *
    go_wp2_with fail
    refine (ready_any _).mono ?_
    rintro e w11 ⟨rfl, hb⟩
    go_wp2_with fail
    go_ret
    exact ⟨rfl, below_up hx hb⟩
end Go.Proofs.YtlinbaojkmcbeaaGreatDoor
