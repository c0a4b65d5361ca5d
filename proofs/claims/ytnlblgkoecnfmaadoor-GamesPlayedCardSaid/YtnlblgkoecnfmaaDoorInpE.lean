/- The walks of holds, Presses and their references, and of slices.Equal over pieces. -/
import Derived.Test.YtnlblgkoecnfmaaDoorInpD
namespace Go.Proofs.YtnlblgkoecnfmaaDoor
set_option linter.unusedVariables false
set_option linter.unusedSimpArgs false
open Go.RowKit

theorem ty_holds : SliceTy Tryd.prog 118 136 2 16 := .mk' Tryd.underlying118 (z := .agg #[.int .i64 0, .int .i64 0]) (by kernel_rfl) rfl (by decide)

theorem holdsM_le (xs : List Int) (b : Int) (k : Nat) : (holdsM xs b k).length ≤ k := by rw [holdsM_len]; exact pressesM_le xs b k
theorem holdsM_long (xs : List Int) (b : Int) (k : Nat) : ∀ p ∈ holdsM xs b k, 0 ≤ p.2 ∧ p.2 ≤ k := by
  induction k with
  | zero => intro p hp; simp [holdsM] at hp
  | succ k ih =>
    rw [holdsM_succ]
    intro p hp
    unfold hstep at hp
    by_cases h1 : hasB (heldL xs k) b = true
    · by_cases h2 : hasB (heldL xs ((k : Int) - 1)) b = true
      · simp only [h1, h2, if_true] at hp
        have hpos := holdsM_pos xs b k h2
        rcases List.mem_or_eq_of_mem_set hp with h3 | h3
        · have := ih p h3; omega
        · have h4 : (holdsM xs b k).getD ((holdsM xs b k).length - 1) (0, 0) ∈ holdsM xs b k := by
            rw [List.getD_eq_getElem?_getD, List.getElem?_eq_getElem (by omega)]; simp
          have := ih _ h4
          rw [h3]; simp only; omega
      · simp only [h1, h2, if_true] at hp
        simp at hp
        rcases hp with h3 | h3
        · have := ih p h3; omega
        · subst h3; simp; omega
    · simp only [h1] at hp
      have := ih p (by simpa using hp); omega

set_option maxHeartbeats 1000000 in
theorem holds_any (A : Option Addr) (c lo : Nat) (xs : List Int) (b : Int) (w : World) (hr : Row w lo 1 A xs.length (u8s xs)) (hl : xs.length ≤ 1000000000) (hx : ∀ x ∈ xs, 0 ≤ x ∧ x ≤ 255) :
    Calls Tryd.prog 65 #[.slice A xs.length c, .int .i64 b] w fun e w' => ∃ A' c', e = .returned (.slice A' (holdsM xs b xs.length).length c') ∧ w'.ownsRow w.heap.size 136 2 (.slice A' (holdsM xs b xs.length).length c') (holdsM xs b xs.length).length (prs (holdsM xs b xs.length)) ∧ Below w.heap.size w w' := by
  have HX := Lib.hid hx
  clear hx
  go_enter Tryd.func65, Tryd.ntmps65
  go_wp2_with fail
  go_loopw [5, 10] (fun v i wr => ∃ (k : Nat) (A' : Option Addr) (c' : Nat), k ≤ xs.length ∧ i = .int .i64 k ∧ v = .slice A' (holdsM xs b k).length c' ∧ wr.ownsRow w.heap.size 136 2 (.slice A' (holdsM xs b k).length c') (holdsM xs b k).length (prs (holdsM xs b k)) ∧ Below w.heap.size w wr) (fun _ i _ => xs.length - (intOf i).toNat)
  case atStart => exact ⟨0, none, 0, Nat.zero_le _, rfl, rfl, World.ownsRow_nil _ _ _ _, Below.refl _ _⟩
  case round =>
    obtain ⟨k, A', c', hk, rfl, rfl, hown, hbw⟩ := hrel
    by_cases hlt : k < xs.length
    · obtain ⟨bb, off, rfl, _, hbs, c0⟩ := (hr.below hbw).u8_at hlt
      have HT := Lib.hid (holdsM_succ xs b k)
      have hlen := holdsM_le xs b k
      obtain ⟨x0, x1⟩ := HX.out xs[k] (List.getElem_mem _)
      have hz := hbw.size
      have HK := Lib.hid (heldL_at xs k hlt)
      by_cases h1 : hasB xs[k] b = true
      · have g1 : (bits .and .i64 xs[k] b == 0) = false := by unfold hasB at h1; simpa using h1
        by_cases hk0 : k = 0
        · have HE : Hid (holdsM xs b (k + 1) = holdsM xs b k ++ [((k : Int), 1)]) := Lib.hid (by
            rw [HT.out]; unfold hstep
            rw [HK.out, h1, heldL_out xs ((k : Int) - 1) (by omega), hasB_zero]; rfl)
          have d0 : decide ((0 : Int) < (k : Int)) = false := by simp; omega
          have d1 : (k : Int) ≤ 0 := by omega
          clear HT h1 hk0
          generalize holdsM xs b k = o at *
          go_wp2_with (at_builtin; go_must (refine wpList_app (lo := w.heap.size) (base := w.heap.size) (n := o.length) (xs := prs o) _ _ rfl _ _ ty_holds rfl (by repeat (first | exact hown | refine World.ownsRow.alloc ?_ _ | refine own_drewN ?_ _ | refine World.ownsRow.drew ?_)) rfl (by first | exact row_new' _ (by first | rfl | simp) (by first | omega | (simp; omega)) rfl | exact row_newN _ _ (by first | rfl | simp) (by first | omega | (simp; omega)) rfl | exact row_newD _ (by first | rfl | simp) (by first | omega | (simp; omega)) rfl) rfl rfl (by first | omega | decide) (by first | omega | decide) (by first | omega | (simp; omega)) ?_))
          intro A5 c5 w5 hown5 hg5 _
          go_wp2_with fail
          go_roundw
          case rel => exact ⟨k + 1, A5, c5, by omega, by go_num, by rw [HE.out]; simp, by rw [HE.out, prs_app, List.length_append]; exact hown5, below_app hown (by repeat (first | exact hbw | refine Below.alloc ?_ (by first | omega | (simp; omega)) _ | refine below_drewN' ?_ _ | refine Below.drew ?_)) hg5 (Nat.le_refl _) (by simp; omega)⟩
          case measure => simp [intOf]; omega
        · obtain ⟨b', off', e', _, _, c1⟩ := (hr.below hbw).u8_at (k := k - 1) (by omega)
          have e1 : b' = bb ∧ off' = off := by injection e' with e'; injection e' with h1 h2; exact ⟨h1.symm, h2.symm⟩
          obtain ⟨rfl, rfl⟩ := e1
          clear e'
          obtain ⟨y0, y1⟩ := HX.out xs[k - 1] (List.getElem_mem _)
          have HK1 := Lib.hid (heldL_at xs (k - 1) (by omega))
          have HKK : Hid (((k - 1 : Nat) : Int) = (k : Int) - 1) := Lib.hid (by omega)
          have d0 : decide ((0 : Int) < (k : Int)) = true := by simp; omega
          have d1 : (0 : Int) < (k : Int) := by omega
          by_cases h2 : hasB xs[k - 1] b = true
          · have hpos := holdsM_pos xs b k (by rw [← HKK.out, HK1.out]; exact h2)
            have hlong := holdsM_long xs b k
            have g2 : (bits .and .i64 xs[k - 1] b != 0) = true := h2
            generalize holdsM xs b k = o at *
            have hj : o.length - 1 < o.length := by omega
            have HE : Hid (holdsM xs b (k + 1) = o.set (o.length - 1) ((o[o.length - 1]'hj).1, (o[o.length - 1]'hj).2 + 1)) := Lib.hid (by
              rw [HT.out]; unfold hstep
              rw [HK.out, h1, ← HKK.out, HK1.out, h2, List.getD_eq_getElem?_getD, List.getElem?_eq_getElem hj]; rfl)
            clear HT h1 h2
            obtain ⟨g, rfl, hg, hg', hcb, hfb⟩ := ownBlk hown (by omega)
            obtain ⟨e1, e2⟩ := prs_at o _ hj
            have q2 := hcb _ _ e2
            have f2 := hfb ((o.length - 1) * 2 + 1)
            obtain ⟨b1, b2⟩ := hlong _ (List.getElem_mem hj)
            clear hcb hfb e1 e2 hlong
            go_wp2_with fail
            go_roundw
            case rel => exact ⟨k + 1, some ⟨g, 0, none⟩, c', by omega, by go_num, by rw [HE.out]; simp, by rw [HE.out, List.length_set]; exact own_prs_set (ps := o) (c := c') (by repeat (first | exact hown | refine World.ownsRow.alloc ?_ _ | refine own_drewN ?_ _ | refine World.ownsRow.drew ?_)) _ hj _, Below.setCell (by repeat (first | exact hbw | refine Below.alloc ?_ (by first | omega | (simp; omega)) _ | refine below_drewN' ?_ _ | refine Below.drew ?_)) (by simpa using hg) _⟩
            case measure => simp [intOf]; omega
          · have g2 : (bits .and .i64 xs[k - 1] b != 0) = false := by simpa [hasB] using h2
            have HE : Hid (holdsM xs b (k + 1) = holdsM xs b k ++ [((k : Int), 1)]) := Lib.hid (by
              rw [HT.out]; unfold hstep
              rw [HK.out, h1, ← HKK.out, HK1.out, Bool.eq_false_iff.2 h2]; rfl)
            clear HT h1 h2
            generalize holdsM xs b k = o at *
            go_wp2_with (at_builtin; go_must (refine wpList_app (lo := w.heap.size) (base := w.heap.size) (n := o.length) (xs := prs o) _ _ rfl _ _ ty_holds rfl (by repeat (first | exact hown | refine World.ownsRow.alloc ?_ _ | refine own_drewN ?_ _ | refine World.ownsRow.drew ?_)) rfl (by first | exact row_new' _ (by first | rfl | simp) (by first | omega | (simp; omega)) rfl | exact row_newN _ _ (by first | rfl | simp) (by first | omega | (simp; omega)) rfl | exact row_newD _ (by first | rfl | simp) (by first | omega | (simp; omega)) rfl) rfl rfl (by first | omega | decide) (by first | omega | decide) (by first | omega | (simp; omega)) ?_))
            intro A5 c5 w5 hown5 hg5 _
            go_wp2_with fail
            go_roundw
            case rel => exact ⟨k + 1, A5, c5, by omega, by go_num, by rw [HE.out]; simp, by rw [HE.out, prs_app, List.length_append]; exact hown5, below_app hown (by repeat (first | exact hbw | refine Below.alloc ?_ (by first | omega | (simp; omega)) _ | refine below_drewN' ?_ _ | refine Below.drew ?_)) hg5 (Nat.le_refl _) (by simp; omega)⟩
            case measure => simp [intOf]; omega
      · have g1 : (bits .and .i64 xs[k] b == 0) = true := by simpa [hasB] using h1
        have HE : Hid (holdsM xs b (k + 1) = holdsM xs b k) := Lib.hid (by
          rw [HT.out]; unfold hstep
          rw [HK.out, Bool.eq_false_iff.2 h1]; rfl)
        clear HT h1
        go_wp2_with fail
        go_roundw
        case rel => exact ⟨k + 1, A', c', by omega, by go_num, by rw [HE.out], by rw [HE.out]; exact hown, hbw⟩
        case measure => simp [intOf]; omega
    · have hkn : k = xs.length := by omega
      subst hkn
      go_wp2_with fail
      go_ret
      exact ⟨A', c', rfl, hown, hbw⟩

/-- What Presses hands back. -/
def pressR (ps : List (Int × Int)) (b : Int) : Int := if inFault ps = 0 ∧ btnFault b = 0 then (pressesM (unf ps) b (unf ps).length : Int) else 0
def pressE (ps : List (Int × Int)) (b : Int) : Int := if inFault ps = 0 then btnFault b else inFault ps
theorem pressR_ok {ps : List (Int × Int)} {b : Int} (h : inFault ps = 0) (h' : btnFault b = 0) : pressR ps b = (pressesM (unf ps) b (unf ps).length : Int) := by simp [pressR, h, h']
theorem pressR_bad {ps : List (Int × Int)} {b : Int} (h : ¬ (inFault ps = 0 ∧ btnFault b = 0)) : pressR ps b = 0 := by simp only [pressR, h, if_false]
theorem btn_ok {b : Int} (h : b ∈ btns) : btnFault b = 0 := by simp [btnFault, h]
theorem btn_bad {b : Int} (h : ¬ b ∈ btns) : btnFault b = 4 := by simp [btnFault, h]
theorem unf_mem {ps : List (Int × Int)} {P : Int → Prop} (h : ∀ p ∈ ps, P p.1) : ∀ x ∈ unf ps, P x := by
  intro x hx
  obtain ⟨p, hp, hq⟩ := List.mem_flatMap.1 hx
  rw [List.eq_of_mem_replicate hq]
  exact h p hp

set_option maxHeartbeats 1000000 in
theorem presses_any (A : Option Addr) (c lo : Nat) (ps : List (Int × Int)) (b : Int) (w : World) (hr : Row w lo 2 A ps.length (prs ps)) (hl : ps.length ≤ 1000000000) :
    Calls Tryd.prog 36 #[.slice A ps.length c, .int .i64 b] w fun e w' => e = .returned (.tuple #[.int .i64 (pressR ps b), .int .i64 (pressE ps b)]) ∧ Below w.heap.size w w' := by
  go_enter Tryd.func36, Tryd.ntmps36
  go_wp2_with fail
  refine (checkInput_any _ _ _ ps _ hr hl).mono ?_
  rintro e w1 ⟨rfl, hb1⟩
  by_cases h0 : inFault ps = 0
  · obtain ⟨h1, h2, h3⟩ := inFault_ok h0
    have hp : ∀ p ∈ ps, 0 ≤ p.2 := fun p hp => by have := h2 p hp; omega
    have hv : ∀ p ∈ ps, 0 ≤ p.1 ∧ p.1 ≤ 255 := fun p hp => by have := h2 p hp; omega
    have hu := unf_len ps hp
    have hul : (unf ps).length ≤ 200000 := by omega
    have H0 := Lib.hid h0
    have h0' : (inFault ps != 0) = false := by simpa using h0
    have HP := Lib.hid hp
    have HV := Lib.hid hv
    rw [h0]
    clear h0 hu h2 hp hv h0'
    go_wp2_with fail
    refine (buttons_any _).mono ?_
    rintro e w2 ⟨A2, c2, rfl, hr2, hb2⟩
    go_wp2_with fail
    refine (contains_any _ _ _ btns b _ hr2 (by decide)).mono ?_
    rintro e w3 ⟨rfl, rfl⟩
    have hb12 := below_up hb1 hb2
    by_cases h4 : b ∈ btns
    · have hd : decide (b ∈ btns) = true := by simpa using h4
      have H4 := Lib.hid (btn_ok h4)
      rw [hd]
      clear h4 hd
      go_wp2_with fail
      refine (spread_any _ _ _ ps _ (hr.below hb12) hl HP.out HV.out (by omega)).mono ?_
      rintro e w4 ⟨A4, c4, rfl, hown4, hb4⟩
      go_wp2_with fail
      refine (holds_any _ _ _ (unf ps) b _ (Row.of_own hown4) (by omega) (unf_mem HV.out)).mono ?_
      rintro e w5 ⟨A5, c5, rfl, hown5, hb5⟩
      have HL := Lib.hid (holdsM_len (unf ps) b (unf ps).length)
      go_wp2_with fail
      go_ret2
      exact ⟨ret2_is (by rw [pressR_ok H0.out H4.out, ← HL.out]; rfl) (by simp only [pressE, H0.out, if_true, H4.out]; rfl), below_up (below_up hb12 hb4) hb5⟩
    · have hd : decide (b ∈ btns) = false := by simpa using h4
      have H4 := Lib.hid (btn_bad h4)
      rw [hd]
      clear h4 hd
      go_wp2_with fail
      go_ret2
      exact ⟨ret2_is (by rw [pressR_bad (by rw [H4.out]; omega)]; rfl) (by simp only [pressE, H0.out, if_true, H4.out]; rfl), hb12⟩
  · have h0' : (inFault ps != 0) = true := by simpa using h0
    have H0 := Lib.hid h0
    clear h0
    go_wp2_with fail
    go_ret2
    exact ⟨ret2_is (by rw [pressR_bad (fun h => H0.out h.1)]; rfl) (by simp only [pressE, H0.out, if_false]; rfl), hb1⟩

end Go.Proofs.YtnlblgkoecnfmaaDoor
