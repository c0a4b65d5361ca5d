/- For every list of numbers the law MarksTimed returns true and leaves the list as it was: its walk. -/
import Derived.Test.YtgkjpcapoofphaaMkM
import Derived.Test.YtgkjpcapoofphaaMkL
import Derived.Test.YtgkjpcapoofphaaMkI
import Derived.Deep.DeepCutAuto
namespace Go.Proofs.Ytgkjpcapoofphaa
open Go.RowKit

theorem tm_time {v : List St} {l : List Mk} (h0 : mkFault v l = 0) : tmE v l = msM (multK v) (pS v l false (l.length - 1)) := by
  obtain ⟨_, hm⟩ := mkFault_zero h0
  rw [tmE_ok h0, time_law v (mkF_turn hm) (mkF_ok hm).2.1]
theorem sp_split {v : List St} {l : List Mk} (h0 : mkFault v l = 0) : spE v l = spl v l l.length := by
  obtain ⟨_, hm⟩ := mkFault_zero h0
  have := spl_law v (mkF_turn hm) l.length (Nat.le_refl _)
  rw [List.take_length] at this
  rw [spE_ok h0, this]
theorem spE_len (v : List St) (l : List Mk) : (spE v l).length ≤ l.length := by
  by_cases h0 : mkFault v l = 0
  · rw [sp_split h0]; exact spl_len v l _ (Nat.le_refl _)
  · rw [spE_bad h0]; simp
theorem mvL_len (all d : Int) (l : List Mk) : (mvL all d l).length ≤ l.length := by
  unfold mvL; split <;> simp
theorem moL_len (v : List St) (l : List Mk) (d : Int) : (moL v l d).length ≤ l.length := by
  by_cases h0 : mkFault v l = 0
  · rw [(mo_ok h0).2]; exact mvL_len _ _ _
  · rw [(mo_bad h0).2]; simp

set_option maxHeartbeats 2000000 in
set_option maxRecDepth 100000 in
theorem marks_walk (A : Option Addr) (n c : Nat) (w : World) (hn : n ≤ 9223372036854775807)
    (hz : ∀ k, k < n → ∃ b off z, A = some ⟨b, off, none⟩ ∧ b < w.heap.size ∧ w.cell? ⟨b, off + k, none⟩ = some (.int .i64 z) ∧ I64 z) :
    LawCall 5 A n c w := by
  have hstr := str_make (c := c) hn hz
  clear hz
  go_enter Try.func5, Try.ntmps5
  go_wp2_with fail
  refine (video_any w.heap.size 0 _ hstr (by omega)).mono ?_
  rintro e w1 ⟨Ax, cx, v, rfl, hown1, hv4, hvi, hs1, hg1⟩
  have HI := Lib.hid hvi
  have hb1 : Below w.heap.size w w1 := ((Below.refl _ _).alloc (Nat.le_refl _) _).grown hg1 (by simp) (fun k hk => by injection hk with hk; omega)
  have hrow1 := Row.of_own hown1
  rw [World.size_alloc] at hrow1
  have hl : v.length ≤ 1000000000 := by omega
  have z1 := hs1.lt
  clear hown1 hg1 hstr hvi
  go_wp2_with fail
  refine (marks_any w.heap.size _ _ _ _ v _ hs1 (by omega) hrow1 hl HI.out).mono ?_
  rintro e w2 ⟨Am, cm, m, rfl, hown2, hm20, hs2, hg2⟩
  have hb2 : Below w.heap.size w w2 := hb1.grown hg2 (by omega) (fun k hk => by injection hk with hk; omega)
  have hrow2 := hrow1.grown hg2 (by omega)
  have hmk2 := (Row.of_own hown2).weak (show w.heap.size + 1 ≤ w1.heap.size by omega)
  have hlm : m.length ≤ 1000000000 := by omega
  have z2 := hs2.lt
  clear hown2 hg2 hb1 hrow1 hs1
  go_wp2_with fail
  refine (pick_any w.heap.size _ (w.heap.size + 1) _ _ [0, 1, -1, 10, 10000001] _ (hs2.alloc _) (by omega) (by first | exact row_new' _ (by first | rfl | simp) (by first | omega | (simp; omega)) rfl | exact row_newN _ _ (by first | rfl | simp) (by first | omega | (simp; omega)) rfl | exact row_newD _ (by first | rfl | simp) (by first | omega | (simp; omega)) rfl) (by omega) (by simp) (by simp)).mono ?_
  rintro e w3 ⟨by_, rfl, -, hs3, hg3⟩
  have hb3 : Below w.heap.size w w3 := (hb2.alloc hb2.size _).grown hg3 (by have := hb2.size; simp; omega) (fun k hk => by injection hk with hk; omega)
  have hrow3 := (hrow2.alloc _).grown hg3 (by omega)
  have hmk3 := (hmk2.alloc _).grown hg3 (by omega)
  clear hg3 hb2 hrow2 hs2 hs3 hmk2
  go_wp2_with fail
  refine (marksFault_any _ _ _ _ _ _ v m _ hrow3 hmk3 hl hlm HI.out).mono ?_
  rintro e w4 ⟨rfl, hb4⟩
  have hrow4 := hrow3.below hb4
  have hmk4 := hmk3.below hb4
  have hx4 := below_up hb3 hb4
  clear hb4 hb3 hrow3 hmk3
  go_wp2_with fail
  refine (checkMarks_any _ _ _ _ _ _ v m _ hrow4 hmk4 hl hlm HI.out).mono ?_
  rintro e w5 ⟨rfl, hb5⟩
  have hrow5 := hrow4.below hb5
  have hmk5 := hmk4.below hb5
  have hx5 := below_up hx4 hb5
  clear hb5 hx4 hrow4 hmk4
  go_wp2_with fail
  refine (timed_any _ _ _ _ _ _ v m _ hrow5 hmk5 hl hlm HI.out).mono ?_
  rintro e w6 ⟨rfl, hb6⟩
  have hrow6 := hrow5.below hb6
  have hmk6 := hmk5.below hb6
  have hx6 := below_up hx5 hb6
  clear hb6 hx5 hrow5 hmk5
  go_wp2_with fail
  refine (whole_any _ _ _ _ _ _ v m _ hrow6 hmk6 hl hlm HI.out).mono ?_
  rintro e w7 ⟨rfl, hb7⟩
  have hrow7 := hrow6.below hb7
  have hmk7 := hmk6.below hb7
  have hx7 := below_up hx6 hb7
  clear hb7 hx6 hrow6 hmk6
  go_wp2_with fail
  refine (splits_any _ _ _ _ _ _ v m _ hrow7 hmk7 hl hlm HI.out).mono ?_
  rintro e w8 ⟨As, cs, rfl, hsp8, hb8⟩
  have hrow8 := hrow7.below hb8
  have hmk8 := hmk7.below hb8
  have hx8 := below_up hx7 hb8
  clear hb8 hx7 hrow7 hmk7
  go_wp2_with fail
  refine (doubt_any _ _ _ _ _ _ v m _ hrow8 hmk8 hl hlm HI.out).mono ?_
  rintro e w9 ⟨rfl, hb9⟩
  have hrow9 := hrow8.below hb9
  have hmk9 := hmk8.below hb9
  have hsp9 := hsp8.below hb9
  have hx9 := below_up hx8 hb9
  clear hb9 hx8 hrow8 hmk8 hsp8
  go_wp2_with fail
  refine (moved_any _ _ _ _ _ _ v m by_ _ hrow9 hmk9 hl hlm HI.out).mono ?_
  rintro e w10 ⟨Ao, co, rfl, hmo10, hb10⟩
  have hrow10 := hrow9.below hb10
  have hmk10 := hmk9.below hb10
  have hsp10 := hsp9.below hb10
  have hx10 := below_up hx9 hb10
  have ls := spE_len v m
  have lo := moL_len v m by_
  clear hb10 hx9 hrow9 hmk9 hsp9
  by_cases h0 : mkFault v m = 0
  · obtain ⟨hv, hm⟩ := mkFault_zero h0
    have HG := Lib.hid (vFault_ok hv)
    have HM := Lib.hid (mkF_ok hm)
    have H0 := Lib.hid h0
    have hln := HM.out.1
    have hsum := HG.out.sum
    have hpos : 0 < m.length := by obtain ⟨x, hx, _⟩ := last_mem m HM.out.2.1; exact List.length_pos_of_mem hx
    have HB : Hid (∀ x ∈ m, 0 ≤ x.1 ∧ x.1 ≤ 1000000000000) := Lib.hid (fun x hx => by have := HM.out.2.2.1 x hx; omega)
    have e1 := tm_time h0
    have e2 := whE_ok h0
    have e3 := sp_split h0
    have e4 := mo_ok (d := by_) h0
    rw [e1, e2, e4.1, h0]
    rw [e4.2] at hmo10 lo
    rw [e3] at hsp10 ls
    rw [e4.2, e3]
    clear h0 hv hm e1 e2 e3 e4
    go_wp2_with fail
    refine (doubtOf_any _ _ _ _ _ _ v m _ hrow10 hmk10 H0.out).mono ?_
    rintro e w11 ⟨rfl, hb11⟩
    have hrow11 := hrow10.below hb11
    have hmk11 := hmk10.below hb11
    have hsp11 := hsp10.below hb11
    have hmo11 := hmo10.below hb11
    have hx11 := below_up hx10 hb11
    clear hb11 hx10 hrow10 hmk10 hsp10 hmo10
    go_wp2_with fail
    refine (movedMarks_any _ _ _ _ _ _ v m by_ _ hrow11 hmk11 HG.out (by omega) HB.out).mono ?_
    rintro e w12 ⟨Ap, cp, rfl, hmp12, hb12⟩
    have hrow12 := hrow11.below hb12
    have hmk12 := hmk11.below hb12
    have hsp12 := hsp11.below hb12
    have hmo12 := hmo11.below hb12
    have hx12 := below_up hx11 hb12
    clear hb12 hx11 hrow11 hmk11 hsp11 hmo11
    go_wp2_with fail
    refine (timeOf_any _ _ _ _ _ _ v m false _ hrow12 hmk12 HG.out (by omega) HM.out.2.2.2.1 HB.out hpos).mono ?_
    rintro e w13 ⟨rfl, hb13⟩
    have hrow13 := hrow12.below hb13
    have hmk13 := hmk12.below hb13
    have hsp13 := hsp12.below hb13
    have hmo13 := hmo12.below hb13
    have hmp13 := hmp12.below hb13
    have hx13 := below_up hx12 hb13
    clear hb13 hx12 hrow12 hmk12 hsp12 hmo12 hmp12
    go_wp2_with fail
    refine (timeOf_any _ _ _ _ _ _ v m true _ hrow13 hmk13 HG.out (by omega) HM.out.2.2.2.1 HB.out hpos).mono ?_
    rintro e w14 ⟨rfl, hb14⟩
    have hrow14 := hrow13.below hb14
    have hmk14 := hmk13.below hb14
    have hsp14 := hsp13.below hb14
    have hmo14 := hmo13.below hb14
    have hmp14 := hmp13.below hb14
    have hx14 := below_up hx13 hb14
    clear hb14 hx13 hrow13 hmk13 hsp13 hmo13 hmp13
    go_wp2_with fail
    refine (splitsBy_any _ _ _ _ _ _ v m _ hrow14 hmk14 HG.out (by omega) HM.out.2.2.2.1 HB.out).mono ?_
    rintro e w15 ⟨Aq, cq, rfl, hown15, hb15⟩
    have hq15 := Row.of_own hown15
    have hsp15 := hsp14.below hb15
    have hmo15 := hmo14.below hb15
    have hmp15 := hmp14.below hb15
    have hx15 := below_up hx14 hb15
    clear hb15 hx14 hrow14 hmk14 hsp14 hmo14 hmp14 hown15
    go_wp2_with fail
    refine (equalI_any _ _ _ _ _ _ _ _ _ hsp15 hq15 (by omega) (by omega)).mono ?_
    rintro e w16 ⟨rfl, q, rfl⟩
    rw [decide_eq_true rfl]
    go_wp2_with fail
    refine (equalM_any _ _ _ _ _ _ _ _ _ (by repeat (first | exact hmo15 | refine Row.alloc ?_ _ | refine Row.drewN ?_ _ | refine Row.drew ?_)) (by repeat (first | exact hmp15 | refine Row.alloc ?_ _ | refine Row.drewN ?_ _ | refine Row.drew ?_)) (by omega) (by omega)).mono ?_
    rintro e w17 ⟨rfl, q', rfl⟩
    rw [decide_eq_true rfl]
    go_wp2_with fail
    refine (filmed_any _).mono ?_
    rintro e w18 ⟨rfl, hb18⟩
    go_wp2_with fail
    go_ret
    exact ⟨rfl, below_up (by repeat (first | exact hx15 | refine Below.alloc ?_ (by first | omega | (simp; omega)) _ | refine below_drewN' ?_ _ | refine Below.drew ?_)) hb18⟩
  · have H0 := Lib.hid h0
    have t0 : (mkFault v m != 0) = true := by simpa using h0
    have e1 := tmE_bad h0
    have e2 := whE_bad h0
    have e3 := spE_bad h0
    have e4 := mo_bad (d := by_) h0
    have e5 := duE_bad (d := -1) h0
    have e6 := duE_bad (d := 1) h0
    rw [e1, e2, e3, e4.1, e4.2, e5, e6]
    clear e1 e2 e3 e4 e5 e6 h0
    go_wp2_with fail
    refine (filmed_any _).mono ?_
    rintro e w11 ⟨rfl, hb11⟩
    go_wp2_with fail
    go_ret
    exact ⟨rfl, below_up hx10 hb11⟩
end Go.Proofs.Ytgkjpcapoofphaa
