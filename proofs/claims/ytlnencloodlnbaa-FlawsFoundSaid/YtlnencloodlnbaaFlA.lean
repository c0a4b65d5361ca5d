/- The walks of bothFlaws, pressFlaws and of the order of flaws. -/
import Derived.Test.YtlnencloodlnbaaFl
import Derived.Test.YtlnencloodlnbaaInpF
import Derived.Test.YtlnencloodlnbaaEv
namespace Go.Proofs.Ytlnencloodlnbaa
open Go.RowKit

theorem ty_flaws : SliceTy Try.prog 35 42 3 24 := .mk' Try.underlying35 (z := .agg #[.int .i64 0, .int .i64 0, .int .i64 0]) (by kernel_rfl) rfl (by decide)

set_option maxHeartbeats 1000000 in
theorem bothFlaws_any (A : Option Addr) (c lo : Nat) (xs : List Int) (m b : Int) (w : World) (hr : Row w lo 1 A xs.length (u8s xs)) (hl : xs.length ≤ 1000000000) (hx : ∀ x ∈ xs, 0 ≤ x ∧ x ≤ 255) (hm : allB 0 m = false) :
    Calls Try.prog 25 #[.slice A xs.length c, .int .i64 m, .int .i64 b] w fun e w' => ∃ A' c', e = .returned (.slice A' (bothL xs m b xs.length).length c') ∧ w'.ownsRow w.heap.size 42 3 (.slice A' (bothL xs m b xs.length).length c') (bothL xs m b xs.length).length (trs (bothL xs m b xs.length)) ∧ Below w.heap.size w w' := by
  have HX := Lib.hid hx
  have HM := Lib.hid hm
  clear hx hm
  go_enter Try.func25, Try.ntmps25
  go_wp2_with fail
  go_loopw [7, 12] (fun v i wr => ∃ (k : Nat) (A' : Option Addr) (c' : Nat), k ≤ xs.length ∧ i = .int .i64 k ∧ v = .slice A' (bothL xs m b k).length c' ∧ wr.ownsRow w.heap.size 42 3 (.slice A' (bothL xs m b k).length c') (bothL xs m b k).length (trs (bothL xs m b k)) ∧ Below w.heap.size w wr) (fun _ i _ => xs.length - (intOf i).toNat)
  case atStart => exact ⟨0, none, 0, Nat.zero_le _, rfl, rfl, World.ownsRow_nil _ _ _ _, Below.refl _ _⟩
  case round =>
    obtain ⟨k, A', c', hk, rfl, rfl, hown, hbw⟩ := hrel
    by_cases hlt : k < xs.length
    · obtain ⟨bb, off, rfl, _, hbs, c0⟩ := (hr.below hbw).u8_at hlt
      have HT := Lib.hid (bothL_succ xs m b k)
      have hlen := bothL_len xs m b k
      obtain ⟨x0, x1⟩ := HX.out xs[k] (List.getElem_mem _)
      have hz := hbw.size
      have HK := Lib.hid (heldL_at xs k hlt)
      by_cases h1 : allB xs[k] m = true
      · have g1 : (bits .and .i64 xs[k] m == m) = true := h1
        by_cases hk0 : k = 0
        · have HE : Hid (bothL xs m b (k + 1) = bothL xs m b k ++ [((k : Int), 1, b)]) := Lib.hid (by
            rw [HT.out, if_pos]
            unfold bothS
            rw [HK.out, h1, heldL_out xs ((k : Int) - 1) (by omega), HM.out]; rfl)
          have d0 : ((k : Int) == 0) = true := by simp; omega
          clear HT h1 hk0
          generalize bothL xs m b k = o at *
          go_wp2_with (at_builtin; go_must (refine wpList_app (lo := w.heap.size) (base := w.heap.size) (n := o.length) (xs := trs o) _ _ rfl _ _ ty_flaws rfl (by repeat (first | exact hown | refine World.ownsRow.alloc ?_ _ | refine own_drewN ?_ _ | refine World.ownsRow.drew ?_)) rfl (by first | exact row_new' _ (by first | rfl | simp) (by first | omega | (simp; omega)) rfl | exact row_newN _ _ (by first | rfl | simp) (by first | omega | (simp; omega)) rfl | exact row_newD _ (by first | rfl | simp) (by first | omega | (simp; omega)) rfl) rfl rfl (by first | omega | decide) (by first | omega | decide) (by first | omega | (simp; omega)) ?_))
          intro A5 c5 w5 hown5 hg5 _
          go_wp2_with fail
          go_roundw
          case rel => exact ⟨k + 1, A5, c5, by omega, by go_num, by rw [HE.out]; simp, by rw [HE.out, trs_app, List.length_append]; exact hown5, below_app hown (by repeat (first | exact hbw | refine Below.alloc ?_ (by first | omega | (simp; omega)) _ | refine below_drewN' ?_ _ | refine Below.drew ?_)) hg5 (Nat.le_refl _) (by simp; omega)⟩
          case measure => simp [intOf]; omega
        · obtain ⟨b', off', e', _, _, c1⟩ := (hr.below hbw).u8_at (k := k - 1) (by omega)
          have e1 : b' = bb ∧ off' = off := by injection e' with e'; injection e' with h1 h2; exact ⟨h1.symm, h2.symm⟩
          obtain ⟨rfl, rfl⟩ := e1
          clear e'
          obtain ⟨y0, y1⟩ := HX.out xs[k - 1] (List.getElem_mem _)
          have HK1 := Lib.hid (heldL_at xs (k - 1) (by omega))
          have HKK : Hid (((k - 1 : Nat) : Int) = (k : Int) - 1) := Lib.hid (by omega)
          have d0 : ((k : Int) == 0) = false := by simp; omega
          have d1 : (0 : Int) < (k : Int) := by omega
          by_cases h2 : allB xs[k - 1] m = true
          · have g2 : (bits .and .i64 xs[k - 1] m != m) = false := by unfold allB at h2; simpa using h2
            have HE : Hid (bothL xs m b (k + 1) = bothL xs m b k) := Lib.hid (by
              rw [HT.out, if_neg, List.append_nil]
              unfold bothS
              rw [HK.out, h1, ← HKK.out, HK1.out, h2]; simp)
            clear HT h1 h2
            go_wp2_with fail
            go_roundw
            case rel => exact ⟨k + 1, A', c', by omega, by go_num, by rw [HE.out], by rw [HE.out]; exact hown, hbw⟩
            case measure => simp [intOf]; omega
          · have g2 : (bits .and .i64 xs[k - 1] m != m) = true := by unfold allB at h2; simpa using h2
            have HE : Hid (bothL xs m b (k + 1) = bothL xs m b k ++ [((k : Int), 1, b)]) := Lib.hid (by
              rw [HT.out, if_pos]
              unfold bothS
              rw [HK.out, h1, ← HKK.out, HK1.out, Bool.eq_false_iff.2 h2]; rfl)
            clear HT h1 h2
            generalize bothL xs m b k = o at *
            go_wp2_with (at_builtin; go_must (refine wpList_app (lo := w.heap.size) (base := w.heap.size) (n := o.length) (xs := trs o) _ _ rfl _ _ ty_flaws rfl (by repeat (first | exact hown | refine World.ownsRow.alloc ?_ _ | refine own_drewN ?_ _ | refine World.ownsRow.drew ?_)) rfl (by first | exact row_new' _ (by first | rfl | simp) (by first | omega | (simp; omega)) rfl | exact row_newN _ _ (by first | rfl | simp) (by first | omega | (simp; omega)) rfl | exact row_newD _ (by first | rfl | simp) (by first | omega | (simp; omega)) rfl) rfl rfl (by first | omega | decide) (by first | omega | decide) (by first | omega | (simp; omega)) ?_))
            intro A5 c5 w5 hown5 hg5 _
            go_wp2_with fail
            go_roundw
            case rel => exact ⟨k + 1, A5, c5, by omega, by go_num, by rw [HE.out]; simp, by rw [HE.out, trs_app, List.length_append]; exact hown5, below_app hown (by repeat (first | exact hbw | refine Below.alloc ?_ (by first | omega | (simp; omega)) _ | refine below_drewN' ?_ _ | refine Below.drew ?_)) hg5 (Nat.le_refl _) (by simp; omega)⟩
            case measure => simp [intOf]; omega
      · have g1 : (bits .and .i64 xs[k] m == m) = false := by unfold allB at h1; simpa using h1
        have HE : Hid (bothL xs m b (k + 1) = bothL xs m b k) := Lib.hid (by
          rw [HT.out, if_neg, List.append_nil]
          unfold bothS
          rw [HK.out, Bool.eq_false_iff.2 h1]; simp)
        clear HT h1
        go_wp2_with fail
        go_roundw
        case rel => exact ⟨k + 1, A', c', by omega, by go_num, by rw [HE.out], by rw [HE.out]; exact hown, hbw⟩
        case measure => simp [intOf]; omega
    · have hkn : k = xs.length := by omega
      subst hkn
      go_wp2_with fail
      go_ret
      exact ⟨A', c', rfl, hown, hbw⟩

theorem isNaN_any (x : Int) (w : World) : Calls Try.prog 57 #[.int .i64 x] w fun e w' => e = .returned (.bool false) ∧ w = w' := by
  have g : (x != x) = false := by simp
  go_enter Try.func57, Try.ntmps57
  go_wp2_with fail
  go_ret
  exact ⟨rfl, rfl⟩

theorem cmpInt_any (x y : Int) (w : World) : Calls Try.prog 43 #[.int .i64 x, .int .i64 y] w fun e w' => e = .returned (.int .i64 (cmpI x y)) ∧ w = w' := by
  go_enter Try.func43, Try.ntmps43
  go_wp2_with fail
  refine (isNaN_any _ _).mono ?_
  rintro e w1 ⟨rfl, rfl⟩
  go_wp2_with fail
  refine (isNaN_any _ _).mono ?_
  rintro e w1 ⟨rfl, rfl⟩
  rcases Int.lt_trichotomy x y with h | h | h
  · have HC : Hid (cmpI x y = -1) := Lib.hid (by simp [cmpI, h])
    go_wp2_with fail
    go_ret
    exact ⟨ret_int' HC.out.symm, rfl⟩
  · have HC : Hid (cmpI x y = 0) := Lib.hid (by simp [cmpI, h])
    subst h
    go_wp2_with fail
    go_ret
    exact ⟨ret_int' HC.out.symm, rfl⟩
  · have HC : Hid (cmpI x y = 1) := Lib.hid (by simp [cmpI, h]; omega)
    have d : decide (x < y) = false := by simp; omega
    go_wp2_with fail
    go_ret
    exact ⟨ret_int' HC.out.symm, rfl⟩
end Go.Proofs.Ytlnencloodlnbaa
