/- The walks of MarksFault and NoneFault. -/
import Derived.Test.YtgkjpcapoofphaaMkP
namespace Go.Proofs.Ytgkjpcapoofphaa
open Go.RowKit

/-- How the reference tells what is misplaced. -/
theorem misB_true {x a : Int} (h : misB x a = true) : (a = 0 → x ≠ 1) ∧ (a ≠ 0 → x = 1 ∨ a = 2 ∨ ((a == 3) = true ∧ (x == 4) = false) ∨ ((a == 3) = false ∧ (x == 4) = true)) := by
  unfold misB at h
  by_cases h1 : a = 0 ∨ x = 1
  · rw [if_pos h1] at h
    simp at h
    omega
  · rw [if_neg h1] at h
    by_cases h2 : a = 2
    · omega
    · rw [if_neg h2] at h
      by_cases h3 : a = 3
      · rw [if_pos h3] at h; simp at h; subst h3; simp; omega
      · rw [if_neg h3] at h; simp at h; simp; omega
theorem misB_same {x a : Int} (h : misB x a = false) (ha : a ≠ 0) : ((a == 3) = true ∧ (x == 4) = true) ∨ ((a == 3) = false ∧ (x == 4) = false) := by
  have m := (misB_false h).2 ha
  simp
  omega
/-- What is known of the last kind, when all marks before are right. -/
theorem last_next {x a : Int} (hx : 1 ≤ x ∧ x ≤ 5) (h : misB x a = false) : ((if x = 5 then a else x) == 3) = (x == 3) ∧ ((if x = 5 then a else x) == 2) = (x == 2) ∧ (if x = 5 then a else x) ≠ 0 := by
  have m := misB_false h
  have key : ((if x = 5 then a else x) = 3 ↔ x = 3) ∧ ((if x = 5 then a else x) = 2 ↔ x = 2) ∧ (if x = 5 then a else x) ≠ 0 := by
    by_cases h5 : x = 5
    · rw [if_pos h5]
      have a0 : a ≠ 0 := fun h0 => by have := m.1 h0; omega
      have := m.2 a0
      omega
    · rw [if_neg h5]; omega
  generalize (if x = 5 then a else x) = q at *
  refine ⟨?_, ?_, key.2.2⟩
  · rw [Bool.eq_iff_iff]; simpa using key.1
  · rw [Bool.eq_iff_iff]; simpa using key.2.1

set_option maxHeartbeats 400000 in
theorem noneFault_any (b : Bool) (w : World) : Calls Try.prog 86 #[.bool b] w fun e w' => e = .returned (.int .i64 (if b = true then 8 else 0)) ∧ w = w' := by
  cases b
  · go_enter Try.func86, Try.ntmps86
    go_wp2_with fail
    go_ret
    exact ⟨rfl, rfl⟩
  · go_enter Try.func86, Try.ntmps86
    go_wp2_with fail
    go_ret
    exact ⟨rfl, rfl⟩

set_option maxHeartbeats 4000000 in
theorem marksFault_any (lo lo' c d : Nat) (A B : Option Addr) (v : List St) (l : List Mk) (w : World) (hr : Row w lo 3 A v.length (trs v)) (hrm : Row w lo' 2 B l.length (prs l)) (hl : v.length ≤ 1000000000) (hlm : l.length ≤ 1000000000) (hi : ∀ s ∈ v, s.2.1 ≤ 9223372036854775807) :
    Calls Try.prog 34 #[.slice A v.length c, .slice B l.length d] w fun e w' => e = .returned (.int .i64 (mkFault v l)) ∧ Below w.heap.size w w' := by
  have HI := Lib.hid hi
  clear hi
  go_enter Try.func34, Try.ntmps34
  go_wp2_with fail
  refine (videoFault_any _ _ _ v _ hr hl HI.out).mono ?_
  rintro e w1 ⟨rfl, hb1⟩
  by_cases h0 : vFault v = 0
  · have h0' : (vFault v != 0) = false := by simpa using h0
    have HE := Lib.hid (mkFault_ok (l := l) h0)
    have HG := Lib.hid (vFault_ok h0)
    clear h0
    by_cases hlong : 200 < l.length
    · have HF := Lib.hid (mkF_long (all := fsum v) hlong)
      go_wp2_with fail
      go_ret
      exact ⟨ret_int' (by rw [HE.out, HF.out]), hb1⟩
    · have s1 := HG.out.sum
      have s0 := fsum_nonneg v HG.out.nonneg
      go_wp2_with fail
      clear h0'
      go_loopw [6, 7, 20] (fun a b i wr => ∃ k : Nat, k ≤ l.length ∧ i = .int .i64 k ∧ a = .bool (lastM (l.take k) == 3) ∧ b = .bool (lastM (l.take k) == 2) ∧ Hid (∀ j, j < k → mF (fsum v) l j = 0) ∧ Hid (lastM (l.take k) = 0 ↔ k = 0) ∧ Below w.heap.size w wr) (fun _ _ i _ => l.length - (intOf i).toNat)
      case atStart => exact ⟨0, Nat.zero_le _, rfl, rfl, rfl, Lib.hid (fun j hj => absurd hj (by omega)), Lib.hid (by simp [lastM]), hb1⟩
      case round =>
        obtain ⟨k, hk, rfl, rfl, rfl, hv, H0, hbw⟩ := hrel
        have zw := hbw.size
        by_cases hlt : k < l.length
        · have hrw := hrm.below hbw
          have hrv := hr.below hbw
          obtain ⟨b, off, hB, _, hbs, c0, c1⟩ := hrw.pr_at hlt
          have HBAD := Lib.hid (mkF_bad (all := fsum v) k (by omega) hlt hv.out)
          have HAT := Lib.hid (mF_at (fsum v) l k hlt)
          have HLT := Lib.hid (lastM_take l k hlt)
          have HP : Hid (∀ j, k = j + 1 → prevM l k = some (l.getD j (0, 0))) := Lib.hid (by
            rintro j rfl
            simp only [prevM, Nat.add_one_ne_zero, if_false, Nat.add_sub_cancel]
            rw [List.getD_eq_getElem?_getD, List.getElem?_eq_getElem (by omega)]; rfl)
          have HCP : Hid (∀ w2, Below wr.heap.size wr w2 → ∀ j, k = j + 1 → w2.cell? ⟨b, off + j * 2, none⟩ = some (.int .i64 (l.getD j (0, 0)).1)) := Lib.hid (by
            rintro w2 hw2 j rfl
            obtain ⟨b', off', hB', _, _, c0', _⟩ := (hrw.below hw2).pr_at (k := j) (by omega)
            rw [hB] at hB'
            injection hB' with hB'
            injection hB' with e1 e2
            subst e1 e2
            rw [List.getD_eq_getElem?_getD, List.getElem?_eq_getElem (by omega)]
            exact c0')
          subst hB
          generalize lastM (l.take k) = la at *
          generalize hxk : l[k] = x at *
          clear hxk hrw
          go_wp2_with fail
          refine (in_any _ _ _ _).mono ?_
          rintro e w3 ⟨rfl, rfl⟩
          by_cases h1 : 1 ≤ x.2 ∧ x.2 ≤ 5
          · have h1' : (decide (1 ≤ x.2) && decide (x.2 ≤ 5)) = true := by simp; omega
            rw [h1']
            clear h1'
            have kb0 := Blk.new wr 76 #[.int .i64 x.1, .int .i64 x.2]
            have hba : Below wr.heap.size wr (wr.alloc (.cells #[.int .i64 x.1, .int .i64 x.2] 76)) := (Below.refl _ _).alloc (Nat.le_refl _) _
            have hrva := hrv.alloc (.cells #[.int .i64 x.1, .int .i64 x.2] 76)
            have kc0 : (wr.alloc (.cells #[.int .i64 x.1, .int .i64 x.2] 76)).cell? ⟨wr.heap.size, 0, none⟩ = some (.int .i64 x.1) := kb0.cell 0
            generalize hwa : wr.alloc (.cells #[.int .i64 x.1, .int .i64 x.2] 76) = wa at *
            have hbx : Below w.heap.size w wa := by rw [← hwa]; exact (by repeat (first | exact hbw | refine Below.alloc ?_ (by first | omega | (simp; omega)) _ | refine below_drewN' ?_ _ | refine Below.drew ?_))
            clear hwa c0 c1
            have kb0d : Blk wa.drew wr.heap.size 76 #[.int .i64 x.1, .int .i64 x.2] := kb0
            have kc0d : wa.drew.cell? ⟨wr.heap.size, 0, none⟩ = some (.int .i64 x.1) := kc0
            have hrvd : Row wa.drew lo 3 A v.length (trs v) := hrva
            have hbad : Below wr.heap.size wr wa.drew := hba.drew
            have hbxd : Below w.heap.size w wa.drew := hbx.drew
            go_wp2_with fail
            go_region_held3 (fun w' => w'.cell? ⟨wr.heap.size, 0, none⟩ = some (.int .i64 x.1)) (first | exact kc5 | exact kc0d) (first | (go_at_call 30; refine (framesIn_any _ _ lo v _ hrvd hl HG.out.nonneg (by omega)).mono ?_; rintro e w5 ⟨rfl, hb5⟩; have kb5 := Blk.below kb0d hb5; have hba5 := below_up hbad hb5; have hbx5 := below_up hbxd hb5; have kc5 : w5.cell? ⟨wr.heap.size, 0, none⟩ = some (.int .i64 x.1) := kb5.cell 0) | (go_at_call 60; refine (in_any _ _ _ _).mono ?_; rintro e w6 ⟨rfl, rfl⟩))
            all_goals
              have kd5 : w5.cell? ⟨wr.heap.size, 1, none⟩ = some (.int .i64 x.2) := kb5.cell 1
              clear kb0 kc0 kb0d kc0d hba hrva hbx hrvd hbad hbxd hb5 kb5
              by_cases h2 : 0 ≤ x.1 ∧ x.1 ≤ fsum v
              · have d1 : decide (0 ≤ x.1) = true := by simp; omega
                have d2 : decide (x.1 ≤ fsum v) = true := by simp; omega
                rw [d1, d2]
                have HRE := Lib.hid (mX_rest (p := prevM l k) (last := la) h1 h2)
                have H1 := Lib.hid h1
                clear h1 h2 d1 d2
                rcases Nat.eq_zero_or_pos k with hk0 | hk0
                · subst hk0
                  have HRX : Hid (mF (fsum v) l 0 = if misB x.2 la = true then 16 else 0) := Lib.hid (by rw [HAT.out, HRE.out]; rfl)
                  have la0 : la = 0 := H0.out.2 rfl
                  subst la0
                  go_wp2_with fail
                  go_quiet (fail)
                  by_cases h4 : misB x.2 0 = true
                  · have HF := Lib.hid (HBAD.out (by rw [HRX.out, if_pos h4]; omega))
                    have H4 := Lib.hid h4
                    have x1 : (x.2 == 1) = false := by have := (misB_true h4).1 rfl; simpa using this
                    clear h4
                    go_wp2_with fail
                    go_ret
                    exact ⟨ret_int' (by rw [HE.out, HF.out, HRX.out, if_pos H4.out]), (by repeat (first | exact hbx5 | refine Below.alloc ?_ (by first | omega | (simp; omega)) _ | refine below_drewN' ?_ _ | refine Below.drew ?_))⟩
                  · have h4' : misB x.2 0 = false := by simpa using h4
                    have xx : x.2 = 1 := (misB_false h4').1 rfl
                    have HNX := Lib.hid (last_next H1.out h4')
                    rw [← HLT.out] at HNX
                    have HN : Hid (∀ j, j < 0 + 1 → mF (fsum v) l j = 0) := Lib.hid (by
                      intro j hj
                      have : j = 0 := by omega
                      subst this
                      rw [HRX.out, if_neg h4])
                    have x1 : (x.2 == 1) = true := by simpa using xx
                    have x4 : (x.2 == 4) = false := by simp; omega
                    clear h4 h4' xx
                    go_wp2_with fail
                    go_roundw
                    case rel => exact ⟨0 + 1, by omega, by go_num, by rw [HNX.out.1], by rw [HNX.out.2.1], HN, Lib.hid ⟨fun h => absurd h HNX.out.2.2, fun h => absurd h (by omega)⟩, (by repeat (first | exact hbx5 | refine Below.alloc ?_ (by first | omega | (simp; omega)) _ | refine below_drewN' ?_ _ | refine Below.drew ?_))⟩
                    case measure => simp [intOf]; omega
                · obtain ⟨j, rfl⟩ : ∃ j, k = j + 1 := ⟨k - 1, by omega⟩
                  have hcp := HCP.out w5 hba5 j rfl
                  have HRX : Hid (mF (fsum v) l (j + 1) = if x.1 < (l.getD j (0, 0)).1 then 7 else if misB x.2 la = true then 16 else 0) := Lib.hid (by rw [HAT.out, HRE.out, HP.out j rfl]; simp)
                  have HLA : Hid (la ≠ 0) := Lib.hid (fun h => by have := H0.out.1 h; omega)
                  generalize (l.getD j (0, 0)).1 = y at *
                  have wj : IntKind.i64.wrap ((j : Int) + 1 - 1) = j := by rw [show (j : Int) + 1 - 1 = j by omega]; exact IntWalk.i64_in _ ⟨by omega, by omega⟩
                  by_cases h3 : x.1 < y
                  · have t3 : decide (x.1 < y) = true := by simpa using h3
                    have HF := Lib.hid (HBAD.out (by rw [HRX.out, if_pos h3]; omega))
                    go_wp2_with fail
                    go_quiet (fail)
                    clear wj
                    go_wp2_with fail
                    go_ret
                    exact ⟨ret_int' (by rw [HE.out, HF.out, HRX.out, if_pos h3]), (by repeat (first | exact hbx5 | refine Below.alloc ?_ (by first | omega | (simp; omega)) _ | refine below_drewN' ?_ _ | refine Below.drew ?_))⟩
                  · have t3 : decide (x.1 < y) = false := by simpa using h3
                    have H3 := Lib.hid h3
                    clear h3
                    go_wp2_with fail
                    go_quiet (fail)
                    clear wj t3
                    by_cases h4 : misB x.2 la = true
                    · have HF := Lib.hid (HBAD.out (by rw [HRX.out, if_neg (by have := H3.out; omega : ¬ x.1 < y), if_pos h4]; omega))
                      have H4 := Lib.hid h4
                      have HR2 := Lib.hid ((misB_true h4).2 HLA.out)
                      clear h4
                      by_cases a2 : la = 2
                      · have t2 : (la == 2) = true := by simpa using a2
                        clear a2 HR2
                        go_wp2_with fail
                        go_ret
                        exact ⟨ret_int' (by rw [HE.out, HF.out, HRX.out, if_neg (by have := H3.out; omega : ¬ x.1 < y), if_pos H4.out]), (by repeat (first | exact hbx5 | refine Below.alloc ?_ (by first | omega | (simp; omega)) _ | refine below_drewN' ?_ _ | refine Below.drew ?_))⟩
                      · have t2 : (la == 2) = false := by simpa using a2
                        by_cases b1 : x.2 = 1
                        · have x1 : (x.2 == 1) = true := by simpa using b1
                          clear a2 b1 HR2
                          go_wp2_with fail
                          go_ret
                          exact ⟨ret_int' (by rw [HE.out, HF.out, HRX.out, if_neg (by have := H3.out; omega : ¬ x.1 < y), if_pos H4.out]), (by repeat (first | exact hbx5 | refine Below.alloc ?_ (by first | omega | (simp; omega)) _ | refine below_drewN' ?_ _ | refine Below.drew ?_))⟩
                        · have x1 : (x.2 == 1) = false := by simpa using b1
                          rcases HR2.out with h | h | ⟨p, q⟩ | ⟨p, q⟩
                          · exact absurd h b1
                          · exact absurd h a2
                          · clear a2 b1 HR2
                            go_wp2_with fail
                            go_ret
                            exact ⟨ret_int' (by rw [HE.out, HF.out, HRX.out, if_neg (by have := H3.out; omega : ¬ x.1 < y), if_pos H4.out]), (by repeat (first | exact hbx5 | refine Below.alloc ?_ (by first | omega | (simp; omega)) _ | refine below_drewN' ?_ _ | refine Below.drew ?_))⟩
                          · clear a2 b1 HR2
                            go_wp2_with fail
                            go_ret
                            exact ⟨ret_int' (by rw [HE.out, HF.out, HRX.out, if_neg (by have := H3.out; omega : ¬ x.1 < y), if_pos H4.out]), (by repeat (first | exact hbx5 | refine Below.alloc ?_ (by first | omega | (simp; omega)) _ | refine below_drewN' ?_ _ | refine Below.drew ?_))⟩
                    · have h4' : misB x.2 la = false := by simpa using h4
                      have HN : Hid (∀ i, i < j + 1 + 1 → mF (fsum v) l i = 0) := Lib.hid (by
                        intro i hi
                        rcases Nat.lt_or_ge i (j + 1) with h | h
                        · exact hv.out i h
                        · have : i = j + 1 := by omega
                          subst this
                          rw [HRX.out, if_neg (by have := H3.out; omega : ¬ x.1 < y), if_neg h4])
                      have mm := (misB_false h4').2 HLA.out
                      have t2 : (la == 2) = false := by simpa using mm.2.1
                      have x1 : (x.2 == 1) = false := by simpa using mm.1
                      have HNX := Lib.hid (last_next H1.out h4')
                      rw [← HLT.out] at HNX
                      rcases misB_same h4' HLA.out with ⟨p, q⟩ | ⟨p, q⟩
                      · clear h4 h4' mm
                        go_wp2_with fail
                        go_roundw
                        case rel => exact ⟨(j + 1) + 1, by omega, by go_num, by rw [HNX.out.1], by rw [HNX.out.2.1], HN, Lib.hid ⟨fun h => absurd h HNX.out.2.2, fun h => absurd h (by omega)⟩, (by repeat (first | exact hbx5 | refine Below.alloc ?_ (by first | omega | (simp; omega)) _ | refine below_drewN' ?_ _ | refine Below.drew ?_))⟩
                        case measure => simp [intOf]; omega
                      · clear h4 h4' mm
                        go_wp2_with fail
                        go_roundw
                        case rel => exact ⟨(j + 1) + 1, by omega, by go_num, by rw [HNX.out.1], by rw [HNX.out.2.1], HN, Lib.hid ⟨fun h => absurd h HNX.out.2.2, fun h => absurd h (by omega)⟩, (by repeat (first | exact hbx5 | refine Below.alloc ?_ (by first | omega | (simp; omega)) _ | refine below_drewN' ?_ _ | refine Below.drew ?_))⟩
                        case measure => simp [intOf]; omega
              · have HA := Lib.hid (mX_arg (p := prevM l k) (last := la) h1 h2)
                have HF := Lib.hid (HBAD.out (by rw [HAT.out, HA.out]; omega))
                have dd : (!decide (0 ≤ x.1) || !decide (x.1 ≤ fsum v)) = true := by simp; omega
                rw [dd]
                clear dd
                go_wp2_with fail
                go_ret
                exact ⟨ret_int' (by rw [HE.out, HF.out, HAT.out, HA.out]), (by repeat (first | exact hbx5 | refine Below.alloc ?_ (by first | omega | (simp; omega)) _ | refine below_drewN' ?_ _ | refine Below.drew ?_))⟩
          · have h1' : (decide (1 ≤ x.2) && decide (x.2 ≤ 5)) = false := by simp; omega
            have HA := Lib.hid (mX_kind (all := fsum v) (p := prevM l k) (last := la) h1)
            have HF := Lib.hid (HBAD.out (by rw [HAT.out, HA.out]; omega))
            rw [h1']
            go_wp2_with fail
            go_ret
            exact ⟨ret_int' (by rw [HE.out, HF.out, HAT.out, HA.out]), (by repeat (first | exact hbw | refine Below.alloc ?_ (by first | omega | (simp; omega)) _ | refine below_drewN' ?_ _ | refine Below.drew ?_))⟩
        · have hkk : k = l.length := by omega
          subst hkk
          have HF := Lib.hid (mkF_good (by omega) hv.out)
          rw [List.take_length]
          by_cases h2 : lastM l = 2
          · have t2 : (lastM l == 2) = true := by simpa using h2
            have HF2 : Hid (mkF (fsum v) l = 0) := Lib.hid (by rw [HF.out, if_pos h2])
            rw [t2]
            clear h2 t2
            go_wp2_with fail
            refine (noneFault_any _ _).mono ?_
            rintro e w3 ⟨rfl, rfl⟩
            go_wp2_with fail
            go_ret
            exact ⟨ret_int' (by rw [HE.out, HF2.out]), hbw⟩
          · have t2 : (lastM l == 2) = false := by simpa using h2
            have HF2 : Hid (mkF (fsum v) l = 8) := Lib.hid (by rw [HF.out, if_neg h2])
            rw [t2]
            clear h2 t2
            go_wp2_with fail
            refine (noneFault_any _ _).mono ?_
            rintro e w3 ⟨rfl, rfl⟩
            go_wp2_with fail
            go_ret
            exact ⟨ret_int' (by rw [HE.out, HF2.out]), hbw⟩
  · have h0' : (vFault v != 0) = true := by simpa using h0
    have HE := Lib.hid (mkFault_bad (l := l) h0)
    clear h0
    go_wp2_with fail
    go_ret
    exact ⟨ret_int' HE.out.symm, hb1⟩
end Go.Proofs.Ytgkjpcapoofphaa
