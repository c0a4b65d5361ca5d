/- For every list of numbers the law InputsFolded returns true and leaves the list as it was: its walk. -/
import Derived.Test.YtgkjpcapoofphaaInpF
namespace Go.Proofs.Ytgkjpcapoofphaa
open Go.RowKit

set_option maxHeartbeats 2000000 in
set_option maxRecDepth 100000 in
theorem folded_walk (A : Option Addr) (n c : Nat) (w : World) (hn : n ≤ 9223372036854775807)
    (hz : ∀ k, k < n → ∃ b off z, A = some ⟨b, off, none⟩ ∧ b < w.heap.size ∧ w.cell? ⟨b, off + k, none⟩ = some (.int .i64 z) ∧ I64 z) :
    LawCall 3 A n c w := by
  have hstr := str_make (c := c) hn hz
  clear hz
  go_enter Try.func3, Try.ntmps3
  go_wp2_with fail
  refine (pieces_any w.heap.size 0 _ hstr (by omega)).mono ?_
  rintro e w1 ⟨Ax, cx, ps, rfl, hown1, hps6, hs1, hg1⟩
  have hb1 : Below w.heap.size w w1 := ((Below.refl _ _).alloc (Nat.le_refl _) _).grown hg1 (by simp) (fun k hk => by injection hk with hk; omega)
  have hrow1 := Row.of_own hown1
  rw [World.size_alloc] at hrow1
  have hl : ps.length ≤ 1000000000 := by omega
  have z1 := hs1.lt
  clear hown1 hg1 hstr
  go_wp2_with fail
  refine (pick_any w.heap.size _ (w.heap.size + 1) _ _ [0, 1, 5, 60, 200, -1, 200001] _ (hs1.alloc _) (by omega) (by first | exact row_new' _ (by first | rfl | simp) (by first | omega | (simp; omega)) rfl | exact row_newN _ _ (by first | rfl | simp) (by first | omega | (simp; omega)) rfl | exact row_newD _ (by first | rfl | simp) (by first | omega | (simp; omega)) rfl) (by omega) (by simp) (by simp)).mono ?_
  rintro e w2 ⟨frame, rfl, -, hs2, hg2⟩
  have hb2 : Below w.heap.size w w2 := (hb1.alloc hb1.size _).grown hg2 (by have := hb1.size; simp; omega) (fun k hk => by injection hk with hk; omega)
  have hrow2 := (hrow1.alloc _).grown hg2 (by omega)
  have z2 := hs2.lt
  clear hg2 hb1 hrow1 hs1
  go_wp2_with fail
  refine (pick_any w.heap.size _ (w.heap.size + 1) _ _ [1, 2, 4, 8, 16, 32, 3, 0] _ (hs2.alloc _) (by omega) (by first | exact row_new' _ (by first | rfl | simp) (by first | omega | (simp; omega)) rfl | exact row_newN _ _ (by first | rfl | simp) (by first | omega | (simp; omega)) rfl | exact row_newD _ (by first | rfl | simp) (by first | omega | (simp; omega)) rfl) (by omega) (by simp) (by simp)).mono ?_
  rintro e w3 ⟨button, rfl, -, hs3, hg3⟩
  have hb3 : Below w.heap.size w w3 := (hb2.alloc hb2.size _).grown hg3 (by have := hb2.size; simp; omega) (fun k hk => by injection hk with hk; omega)
  have hrow3 := (hrow2.alloc _).grown hg3 (by omega)
  clear hg3 hb2 hrow2 hs2 hs3
  go_wp2_with fail
  refine (inputFault_any _ _ _ ps _ hrow3 hl).mono ?_
  rintro e w4 ⟨rfl, hb4⟩
  have hrow4 := hrow3.below hb4
  have hx4 := below_up hb3 hb4
  clear hb4 hb3 hrow3
  go_wp2_with fail
  refine (checkInput_any _ _ _ ps _ hrow4 hl).mono ?_
  rintro e w5 ⟨rfl, hb5⟩
  have hrow5 := hrow4.below hb5
  have hx5 := below_up hx4 hb5
  clear hb5 hx4 hrow4
  go_wp2_with fail
  refine (tidyF_any _ _ _ ps _ hrow5 hl).mono ?_
  rintro e w6 ⟨At, ct, rfl, hrt6, hb6⟩
  have hrow6 := hrow5.below hb6
  have hx6 := below_up hx5 hb6
  clear hb6 hx5 hrow5
  go_wp2_with fail
  refine (framesF_any _ _ _ ps _ hrow6 hl).mono ?_
  rintro e w7 ⟨rfl, hb7⟩
  have hrow7 := hrow6.below hb7
  have hrt7 := hrt6.below hb7
  have hx7 := below_up hx6 hb7
  clear hb7 hx6 hrow6 hrt6
  go_wp2_with fail
  refine (heldAtF_any _ _ _ ps _ _ hrow7 hl).mono ?_
  rintro e w8 ⟨rfl, hb8⟩
  have hrow8 := hrow7.below hb8
  have hrt8 := hrt7.below hb8
  have hx8 := below_up hx7 hb8
  clear hb8 hx7 hrow7 hrt7
  go_wp2_with fail
  refine (presses_any _ _ _ ps _ _ hrow8 hl).mono ?_
  rintro e w9 ⟨rfl, hb9⟩
  have hrow9 := hrow8.below hb9
  have hrt9 := hrt8.below hb9
  have hx9 := below_up hx8 hb9
  clear hb9 hx8 hrow8 hrt8
  by_cases h0 : inFault ps = 0
  · obtain ⟨h1, h2, h3⟩ := inFault_ok h0
    have h0' : (inFault ps != 0) = false := by simpa using h0
    have HP := Lib.hid (show ∀ p ∈ ps, 0 ≤ p.2 from fun p hp => by have := h2 p hp; omega)
    have hul : (unf ps).length ≤ 200000 := by have := unf_len ps HP.out; omega
    have hfl := foldM_len (unf ps)
    have e1 : tidyR ps = foldM (unf ps) := tidyR_ok h0
    have e2 : framesR ps = ((unf ps).length : Int) := framesR_ok h0
    have e4 : heldE ps frame = spanFault frame 0 200000 := by simp only [heldE, h0, if_true]
    have e6 : pressE ps button = btnFault button := by simp only [pressE, h0, if_true]
    rw [e1] at hrt9
    rw [e1, e2, e4, e6, h0]
    have H0 := Lib.hid h0
    clear h0 h0' h2 e1 e2 e4 e6
    go_wp2_with fail
    refine (unfolded_any _ _ _ ps _ hrow9 hl HP.out (by omega)).mono ?_
    rintro e w10 ⟨A10, c10, rfl, hown10, hb10⟩
    have hrow10 := hrow9.below hb10
    have hrt10 := hrt9.below hb10
    have hx10 := below_up hx9 hb10
    clear hb10 hx9 hrow9 hrt9
    go_wp2_with fail
    refine (folded_any _ _ _ (unf ps) _ (Row.of_own hown10) (by omega)).mono ?_
    rintro e w11 ⟨A11, c11, rfl, hown11, hb11⟩
    have hrow11 := hrow10.below hb11
    have hrt11 := hrt10.below hb11
    have hx11 := below_up hx10 hb11
    clear hb11 hx10 hrow10 hrt10 hown10
    go_wp2_with fail
    refine (equalP_any _ _ _ _ _ _ (foldM (unf ps)) (foldM (unf ps)) _ hrt11 (Row.of_own hown11) (by omega) (by omega)).mono ?_
    rintro e w12 ⟨rfl, q, rfl⟩
    have hd : decide (foldM (unf ps) = foldM (unf ps)) = true := by simp
    rw [hd]
    clear hd hown11 hrt11
    go_wp2_with fail
    refine (unfolded_any _ _ _ ps _ (hrow11.drewN q) hl HP.out (by omega)).mono ?_
    rintro e w13 ⟨A13, c13, rfl, hown13, hb13⟩
    have hrow13 := (hrow11.drewN q).below hb13
    have hx13 := below_up (below_drewN' hx11 q) hb13
    clear hb13 hx11 hrow11 hown13
    go_wp2_with fail
    refine (span_any _ _ _ _).mono ?_
    rintro e w14 ⟨rfl, rfl⟩
    go_wp2_with fail
    refine (buttonFault_any _ _).mono ?_
    rintro e w15 ⟨rfl, hb15⟩
    have hrow15 := hrow13.below hb15
    have hx15 := below_up hx13 hb15
    clear hb15 hx13 hrow13
    by_cases s0 : spanFault frame 0 200000 = 0
    · have s1 : heldR ps frame = heldL (unf ps) frame := heldR_ok H0.out s0
      rw [s1, s0]
      clear s0 s1
      go_wp2_with fail
      refine (heldOf_any _ _ _ ps _ _ hrow15 hl HP.out (by omega)).mono ?_
      rintro e w16 ⟨rfl, hb16⟩
      have hrow16 := hrow15.below hb16
      have hx16 := below_up hx15 hb16
      clear hb16 hx15 hrow15
      by_cases t0 : btnFault button = 0
      · have t1 : pressR ps button = (pressesM (unf ps) button (unf ps).length : Int) := pressR_ok H0.out t0
        rw [t1, t0]
        clear t0 t1
        go_wp2_with fail
        refine (pressesOf_any _ _ _ ps _ _ hrow16 hl HP.out (by omega)).mono ?_
        rintro e w17 ⟨rfl, hb17⟩
        have hx17 := below_up hx16 hb17
        clear hb17 hx16
        go_wp2_with fail
        refine (pressed_any _).mono ?_
        rintro e w18 ⟨rfl, hb18⟩
        go_wp2_with fail
        go_ret
        exact ⟨rfl, below_up hx17 hb18⟩
      · have t1 : pressR ps button = 0 := pressR_bad fun h => t0 h.2
        have t2 : (btnFault button == 0) = false := by simpa using t0
        rw [t1]
        clear t0 t1
        go_wp2_with fail
        refine (pressed_any _).mono ?_
        rintro e w18 ⟨rfl, hb18⟩
        go_wp2_with fail
        go_ret
        exact ⟨rfl, below_up hx16 hb18⟩
    · have s1 : heldR ps frame = 0 := heldR_bad fun h => s0 h.2
      have s2 : (spanFault frame 0 200000 == 0) = false := by simpa using s0
      rw [s1]
      clear s0 s1
      by_cases t0 : btnFault button = 0
      · have t1 : pressR ps button = (pressesM (unf ps) button (unf ps).length : Int) := pressR_ok H0.out t0
        rw [t1, t0]
        clear t0 t1
        go_wp2_with fail
        refine (pressesOf_any _ _ _ ps _ _ hrow15 hl HP.out (by omega)).mono ?_
        rintro e w17 ⟨rfl, hb17⟩
        have hx17 := below_up hx15 hb17
        clear hb17 hx15
        go_wp2_with fail
        refine (pressed_any _).mono ?_
        rintro e w18 ⟨rfl, hb18⟩
        go_wp2_with fail
        go_ret
        exact ⟨rfl, below_up hx17 hb18⟩
      · have t1 : pressR ps button = 0 := pressR_bad fun h => t0 h.2
        have t2 : (btnFault button == 0) = false := by simpa using t0
        rw [t1]
        clear t0 t1
        go_wp2_with fail
        refine (pressed_any _).mono ?_
        rintro e w18 ⟨rfl, hb18⟩
        go_wp2_with fail
        go_ret
        exact ⟨rfl, below_up hx15 hb18⟩
  · have h0' : (inFault ps != 0) = true := by simpa using h0
    have e1 : tidyR ps = [] := tidyR_bad h0
    have e2 : framesR ps = 0 := framesR_bad h0
    have e3 : heldR ps frame = 0 := heldR_bad fun h => h0 h.1
    have e4 : heldE ps frame = inFault ps := by simp only [heldE, h0, if_false]
    have e5 : pressR ps button = 0 := pressR_bad fun h => h0 h.1
    have e6 : pressE ps button = inFault ps := by simp only [pressE, h0, if_false]
    rw [e1, e2, e3, e4, e5, e6]
    clear h0 e1 e2 e3 e4 e5 e6
    go_wp2_with fail
    refine (pressed_any _).mono ?_
    rintro e w10 ⟨rfl, hb10⟩
    go_wp2_with fail
    go_ret
    exact ⟨rfl, below_up hx9 hb10⟩
end Go.Proofs.Ytgkjpcapoofphaa
