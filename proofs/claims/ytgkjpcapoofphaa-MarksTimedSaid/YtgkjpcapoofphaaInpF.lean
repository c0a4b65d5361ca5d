/- The walks of slices.Equal over pieces, and of the law's own small test. -/
import Derived.Test.YtgkjpcapoofphaaInpE
namespace Go.Proofs.Ytgkjpcapoofphaa
open Go.RowKit

set_option maxHeartbeats 1000000 in
theorem equalP_any (A B : Option Addr) (c d lo lo' : Nat) (ps qs : List (Int × Int)) (w : World) (hr : Row w lo 2 A ps.length (prs ps)) (hr' : Row w lo' 2 B qs.length (prs qs)) (hl : ps.length ≤ 1000000000) (hl' : qs.length ≤ 1000000000) :
    Calls Try.prog 16 #[.slice A ps.length c, .slice B qs.length d] w fun e w' => e = .returned (.bool (decide (ps = qs))) ∧ ∃ q, w' = w.drewN q := by
  by_cases hlen : ps.length = qs.length
  · have h0 : ((ps.length : Int) != (qs.length : Int)) = false := by simp [hlen]
    have HLEN := Lib.hid hlen
    clear hlen
    go_enter Try.func16, Try.ntmps16
    go_wp2_with fail
    go_loopw [13] (fun i wr => ∃ (k : Nat) (q : Nat), k ≤ ps.length ∧ i = .int .i64 k ∧ Hid (ps.take k = qs.take k) ∧ wr = w.drewN q) (fun i _ => ps.length - (intOf i).toNat)
    case atStart => exact ⟨0, 0, Nat.zero_le _, rfl, Lib.hid rfl, rfl⟩
    case round =>
      obtain ⟨k, q, hk, rfl, htk, rfl⟩ := hrel
      by_cases hlt : k < ps.length
      · obtain ⟨b, off, rfl, _, hbs, c0, c1⟩ := hr.pr_at hlt
        have hlt' : k < qs.length := by have := HLEN.out; omega
        obtain ⟨b', off', rfl, _, hbs', d0, d1⟩ := hr'.pr_at hlt'
        by_cases he : ps[k] = qs[k]
        · have HN : Hid (ps.take (k + 1) = qs.take (k + 1)) := Lib.hid (by rw [List.take_succ_eq_append_getElem hlt, List.take_succ_eq_append_getElem hlt', htk.out, he])
          rw [← he] at d0 d1
          clear he
          go_wp2_with fail
          go_quiet (fail)
          go_wp2_with fail
          go_roundw
          case rel => exact ⟨k + 1, _, by omega, by go_num, HN, rfl⟩
          case measure => simp [intOf]; omega
        · have HN : Hid (¬ ps = qs) := Lib.hid (fun h => he (by subst h; rfl))
          by_cases he1 : ps[k].1 = qs[k].1
          · have e1 : (ps[k].1 == qs[k].1) = true := by simpa using he1
            have e2 : (ps[k].2 == qs[k].2) = false := by simpa using fun h => he (Prod.ext he1 h)
            clear he he1
            go_wp2_with fail
            go_quiet (fail)
            go_wp2_with fail
            go_ret
            exact ⟨ret_bool' (by simp [HN.out]), _, World.drewN_drewN _ _ _⟩
          · have e1 : (ps[k].1 == qs[k].1) = false := by simpa using he1
            clear he he1
            go_wp2_with fail
            go_quiet (fail)
            go_wp2_with fail
            go_ret
            exact ⟨ret_bool' (by simp [HN.out]), _, World.drewN_drewN _ _ _⟩
      · have HN : Hid (ps = qs) := Lib.hid (by
          have := htk.out
          have hh := HLEN.out
          rwa [List.take_of_length_le (by omega), List.take_of_length_le (by omega)] at this)
        go_wp2_with fail
        go_ret
        exact ⟨ret_bool' (by simp [HN.out]), _, rfl⟩
  · have h0 : ((ps.length : Int) != (qs.length : Int)) = true := by rw [bne_iff_ne]; omega
    have HN : Hid (¬ ps = qs) := Lib.hid (fun h => hlen (by rw [h]))
    clear hlen
    go_enter Try.func16, Try.ntmps16
    go_wp2_with fail
    go_ret
    exact ⟨ret_bool' (by simp [HN.out]), 0, rfl⟩

theorem pressR_ex : pressR [(1, 3), (0, 1), (1, 1)] 1 = 2 := by decide
theorem pressE_ex : pressE [(1, 3), (0, 1), (1, 1)] 1 = 0 := by decide

set_option maxHeartbeats 1000000 in
theorem pressed_any (w : World) : Calls Try.prog 15 #[] w fun e w' => e = .returned (.bool true) ∧ Below w.heap.size w w' := by
  have H1 := Lib.hid pressR_ex
  have H2 := Lib.hid pressE_ex
  go_enter Try.func15, Try.ntmps15
  go_wp2_with fail
  refine (presses_any _ _ w.heap.size [(1, 3), (0, 1), (1, 1)] 1 _ (by first | exact row_new' _ (by first | rfl | simp) (by first | omega | (simp; omega)) rfl | exact row_newN _ _ (by first | rfl | simp) (by first | omega | (simp; omega)) rfl | exact row_newD _ (by first | rfl | simp) (by first | omega | (simp; omega)) rfl) (by decide)).mono ?_
  rintro e w1 ⟨rfl, hb1⟩
  rw [H1.out, H2.out]
  go_wp2_with fail
  go_ret
  exact ⟨rfl, below_up ((Below.refl _ _).alloc (Nat.le_refl _) _) hb1⟩
end Go.Proofs.Ytgkjpcapoofphaa
