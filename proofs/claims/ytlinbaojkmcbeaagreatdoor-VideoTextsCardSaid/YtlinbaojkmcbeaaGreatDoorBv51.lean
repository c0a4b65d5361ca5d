/- Texts of this seat, laid together: LawVideoTexts. -/
import Derived.Handy
import Derived.Test.YtlinbaojkmcbeaaGreatDoorBv29
import Derived.Test.YtlinbaojkmcbeaaGreatDoorBv35
import Derived.Test.YtlinbaojkmcbeaaGreatDoorBv20
import Derived.Test.YtlinbaojkmcbeaaGreatDoorBv33
/- For every list of numbers the law VideoTexts returns true and leaves the list as it was: its walk. -/
namespace Go.Proofs.YtlinbaojkmcbeaaGreatDoor
set_option linter.unusedVariables false
set_option linter.unusedSimpArgs false
open Go.RowKit Go.Sort

set_option maxHeartbeats 8000000 in
set_option maxRecDepth 100000 in
theorem vidtext_walk (A : Option Addr) (n c : Nat) (w : World) (hn : n ≤ 9223372036854775807)
    (hz : ∀ k, k < n → ∃ b off z, A = some ⟨b, off, none⟩ ∧ b < w.heap.size ∧ w.cell? ⟨b, off + k, none⟩ = some (.int .i64 z) ∧ I64 z) (hE : Env w) :
    LawCall 3 A n c w := by
  have hstr := str_make (c := c) hn hz
  clear hz
  have hx : Below w.heap.size w (w.alloc (.cells #[.slice A n c, .int .i64 0] 25)) := (Below.refl _ _).alloc (Nat.le_refl _) _
  have hz0 : (w.alloc (.cells #[.slice A n c, .int .i64 0] 25)).heap.size = w.heap.size + 1 := by simp
  have HEB := Lib.hid (EnvB.of hE)
  clear hE
  go_enter Tryz.func3, Tryz.ntmps3
  go_wp2_with fail
  generalize w.alloc (.cells #[.slice A n c, .int .i64 0] 25) = w0 at *
  have HZ0 := Lib.hid hz0
  have hgl : w.heap.size < w0.heap.size := by omega
  clear hz0
  refine (video_any w.heap.size 0 _ hstr (by omega)).mono ?_
  rintro e w1 ⟨VA, c', v, rfl, hov, hl4, hi, hs1, hg1⟩
  replace hx := hx.grown hg1 (by omega) (fun k hk => by injection hk with hk; omega)
  have hrv := Row.of_own hov
  have HVI := Lib.hid hi
  clear hstr hg1
  go_wp2_with fail
  refine (marks_any w.heap.size _ _ c' VA v _ hs1 (by omega) hrv (by omega) hi).mono ?_
  rintro e w2 ⟨MB, d', l, rfl, hom, hl20, hs2, hg2⟩
  replace hx := hx.grown hg2 hx.size (fun k hk => by injection hk with hk; omega)
  replace hov := own_grown hov hg2 (by omega)
  replace hrv := Row.of_own hov
  have hrm := Row.of_own hom
  clear hs1 hg2 hov hom
  go_wp2_with fail
  refine (vText_any VA MB c' d' _ _ v l _ hrv hrm (by omega) (by omega) HVI.out (HEB.out _ hx)).mono ?_
  rintro e w3 ⟨rfl, hb⟩
  replace hrv := hrv.below hb
  replace hrm := hrm.below hb
  replace hs2 := hs2.keep hb
  replace hx := below_up hx hb
  clear hb
  have hvl : v.length ≤ 1000000 := by omega
  have hml : l.length ≤ 1000000 := by omega
  by_cases hf : mkFault v l = 0
  · have HTV := Lib.hid (vTextV_ok hf)
    have HF := Lib.hid hf
    rw [HTV.out]
    go_wp2_with fail
    refine (marksFault_any _ _ c' d' VA MB v l _ hrv hrm (by omega) (by omega) HVI.out).mono ?_
    rintro e w4 ⟨rfl, hb⟩
    replace hrv := hrv.below hb
    replace hrm := hrm.below hb
    replace hs2 := hs2.keep hb
    replace hx := below_up hx hb
    clear hb
    rw [hf]
    clear hf
    generalize hT : vidT v l = T at *
    have HT := Lib.hid hT
    clear hT
    go_wp2_with fail
    refine (videoLines_any VA MB c' d' _ _ v l _ hrv hrm HF.out (HEB.out _ hx)).mono ?_
    rintro e w5 ⟨rfl, hb⟩
    rw [HT.out]
    replace hs2 := hs2.keep hb
    replace hx := below_up hx hb
    clear hb
    have eq : (T == T) = true := by simp
    go_wp2_with fail
    refine (videoString_any w.heap.size _ w.heap.size _ hs2 (by omega) (HEB.out.below hx) (Nat.le_refl _)).mono ?_
    rintro e w7 ⟨r, rfl, hr, hs3, hg3⟩
    replace hx := hx.grown hg3 hx.size (fun k hk => by injection hk with hk; omega)
    clear hs2 hg3 hs3 hrv hrm
    go_wp2_with fail
    refine (vRead_any r _ hr (HEB.out _ hx)).mono ?_
    rintro e w8 ⟨X, cx, Y, cy, rfl, hrx, hry, hb⟩
    replace hx := below_up hx hb
    clear hb
    go_wp2_with fail
    refine (vidRead_any r _ hr (HEB.out _ hx)).mono ?_
    rintro e w9 ⟨P, cp, Q, cq, rfl, hrp, hrq, hb⟩
    replace hrx := hrx.below hb
    replace hry := hry.below hb
    replace hx := below_up hx hb
    clear hb
    have hsz := readVd_sz r hr
    generalize (readVd r).1 = S at *
    generalize (readVd r).2.1 = M at *
    generalize (readVd r).2.2.1 = ln at *
    generalize (readVd r).2.2.2 = en at *
    obtain ⟨hS, hM⟩ := hsz
    have q1 : (en == en) = true := by simp
    have q2 : (ln == ln) = true := by simp
    go_wp2_with fail
    refine (equalT_any X P cx cp _ _ S S _ hrx hrp (by omega) rfl).mono ?_
    rintro e w10 ⟨rfl, qn, rfl⟩
    have hb := below_drewN' (Below.refl w9.heap.size w9) qn
    replace hry := hry.below hb
    replace hrq := hrq.below hb
    replace hx := below_up hx hb
    clear hb hrx hrp
    generalize w9.drewN qn = w10 at *
    go_wp2_with fail
    refine (equalM_any Y Q cy cq _ _ M M _ hry hrq (by omega) (by omega)).mono ?_
    rintro e w11 ⟨rfl, qm, rfl⟩
    rw [decide_eq_true (show M = M from rfl)]
    have hb := below_drewN' (Below.refl w10.heap.size w10) qm
    replace hx := below_up hx hb
    clear hb hry hrq
    generalize w10.drewN qm = w11 at *
    go_wp2_with fail
    refine (filmed_any _).mono ?_
    rintro e w12 ⟨rfl, hb⟩
    go_wp2_with fail
    go_ret
    exact ⟨rfl, below_up hx hb⟩
  · have HTV := Lib.hid (vTextV_bad hf)
    have d1 : (mkFault v l == 0) = false := by simpa using hf
    have d2 : (mkFault v l != 0) = true := by simpa using hf
    have d3 : (mkFault v l == mkFault v l) = true := by simp
    have d4 : ¬ mkFault v l = 0 := hf
    rw [HTV.out]
    go_wp2_with fail
    refine (marksFault_any _ _ c' d' VA MB v l _ hrv hrm (by omega) (by omega) HVI.out).mono ?_
    rintro e w4 ⟨rfl, hb⟩
    replace hrv := hrv.below hb
    replace hrm := hrm.below hb
    replace hs2 := hs2.keep hb
    replace hx := below_up hx hb
    clear hb
    clear hf
    generalize mkFault v l = F at *
    go_wp2_with fail
    refine (videoString_any w.heap.size _ w.heap.size _ hs2 (by omega) (HEB.out.below hx) (Nat.le_refl _)).mono ?_
    rintro e w7 ⟨r, rfl, hr, hs3, hg3⟩
    replace hx := hx.grown hg3 hx.size (fun k hk => by injection hk with hk; omega)
    clear hs2 hg3 hs3 hrv hrm
    go_wp2_with fail
    refine (vRead_any r _ hr (HEB.out _ hx)).mono ?_
    rintro e w8 ⟨X, cx, Y, cy, rfl, hrx, hry, hb⟩
    replace hx := below_up hx hb
    clear hb
    go_wp2_with fail
    refine (vidRead_any r _ hr (HEB.out _ hx)).mono ?_
    rintro e w9 ⟨P, cp, Q, cq, rfl, hrp, hrq, hb⟩
    replace hrx := hrx.below hb
    replace hry := hry.below hb
    replace hx := below_up hx hb
    clear hb
    have hsz := readVd_sz r hr
    generalize (readVd r).1 = S at *
    generalize (readVd r).2.1 = M at *
    generalize (readVd r).2.2.1 = ln at *
    generalize (readVd r).2.2.2 = en at *
    obtain ⟨hS, hM⟩ := hsz
    have q1 : (en == en) = true := by simp
    have q2 : (ln == ln) = true := by simp
    go_wp2_with fail
    refine (equalT_any X P cx cp _ _ S S _ hrx hrp (by omega) rfl).mono ?_
    rintro e w10 ⟨rfl, qn, rfl⟩
    have hb := below_drewN' (Below.refl w9.heap.size w9) qn
    replace hry := hry.below hb
    replace hrq := hrq.below hb
    replace hx := below_up hx hb
    clear hb hrx hrp
    generalize w9.drewN qn = w10 at *
    go_wp2_with fail
    refine (equalM_any Y Q cy cq _ _ M M _ hry hrq (by omega) (by omega)).mono ?_
    rintro e w11 ⟨rfl, qm, rfl⟩
    rw [decide_eq_true (show M = M from rfl)]
    have hb := below_drewN' (Below.refl w10.heap.size w10) qm
    replace hx := below_up hx hb
    clear hb hry hrq
    generalize w10.drewN qm = w11 at *
    go_wp2_with fail
    refine (filmed_any _).mono ?_
    rintro e w12 ⟨rfl, hb⟩
    go_wp2_with fail
    go_ret
    exact ⟨rfl, below_up hx hb⟩
end Go.Proofs.YtlinbaojkmcbeaaGreatDoor
