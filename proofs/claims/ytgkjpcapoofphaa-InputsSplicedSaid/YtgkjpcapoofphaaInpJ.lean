/- The walks of DifferOf and slices.Clone over pieces. -/
import Derived.Test.YtgkjpcapoofphaaInpI
namespace Go.Proofs.Ytgkjpcapoofphaa
open Go.RowKit

set_option maxHeartbeats 1000000 in
theorem differOf_any (A B : Option Addr) (c d lo lo' : Nat) (ps qs : List (Int × Int)) (w : World) (hr : Row w lo 2 A ps.length (prs ps)) (hr' : Row w lo' 2 B qs.length (prs qs)) (hl : ps.length ≤ 1000000000) (hl' : qs.length ≤ 1000000000)
    (hb : ∀ p ∈ ps, 0 ≤ p.2) (hb' : ∀ p ∈ qs, 0 ≤ p.2) (hs : psum ps ≤ 1000000000) (hs' : psum qs ≤ 1000000000) :
    Calls Try.prog 56 #[.slice A ps.length c, .slice B qs.length d] w fun e w' => e = .returned (.int .i64 (diffM (unf ps) (unf qs))) ∧ Below w.heap.size w w' := by
  have hul : (unf ps).length ≤ 1000000000 := by have := unf_len ps hb; omega
  have hul' : (unf qs).length ≤ 1000000000 := by have := unf_len qs hb'; omega
  go_enter Try.func56, Try.ntmps56
  go_wp2_with fail
  refine (unfolded_any _ _ _ ps _ hr hl hb hs).mono ?_
  rintro e w1 ⟨A1, c1, rfl, hown1, hb1⟩
  go_wp2_with fail
  refine (unfolded_any _ _ _ qs _ (hr'.below hb1) hl' hb' hs').mono ?_
  rintro e w2 ⟨A2, c2, rfl, hown2, hb2⟩
  have hbx := below_up hb1 hb2
  have hrow1 := (Row.of_own hown1).below hb2
  have hrow2 := Row.of_own hown2
  clear hown1 hown2 hb hb' hb1
  generalize hxs : unf ps = xs at *
  generalize hys : unf qs = ys at *
  have HXS := Lib.hid hxs
  have HYS := Lib.hid hys
  clear hxs hys
  obtain ⟨mx, hmx⟩ : ∃ mx : Nat, mx = max xs.length ys.length := ⟨_, rfl⟩
  have HMX := Lib.hid hmx
  have hmm : mx ≤ 1000000000 := by omega
  clear hmx
  rcases Int.lt_or_le (xs.length : Int) (ys.length : Int) with g | g
  all_goals
    go_wp2_with fail
    first
      | rw [show (ys.length : Int) = (mx : Int) from by have := HMX.out; omega]
      | rw [show (xs.length : Int) = (mx : Int) from by have := HMX.out; omega]
    go_loop [7, 17] (fun _ i => ∃ (k : Nat), k ≤ mx ∧ i = .int .i64 k ∧ Hid (∀ i : Nat, i < k → heldL xs (i : Int) = heldL ys (i : Int))) (fun _ i => mx - (intOf i).toNat)
    case atStart => exact ⟨0, Nat.zero_le _, rfl, Lib.hid (fun i hi => absurd hi (by omega))⟩
    case round =>
      obtain ⟨k, hk, rfl, hno⟩ := hrel
      by_cases hlt : k < mx
      · go_wp2_with fail
        refine (heldAt_any _ _ _ xs (k : Int) _ hrow1 hul).mono ?_
        rintro e w3 ⟨rfl, rfl⟩
        go_wp2_with fail
        refine (heldAt_any _ _ _ ys (k : Int) _ hrow2 hul').mono ?_
        rintro e w3 ⟨rfl, rfl⟩
        by_cases he : heldL xs (k : Int) = heldL ys (k : Int)
        · have he' : (heldL xs (k : Int) != heldL ys (k : Int)) = false := by simpa using he
          have HN : Hid (∀ i : Nat, i < k + 1 → heldL xs (i : Int) = heldL ys (i : Int)) := Lib.hid (fun i hi => by
            rcases Nat.lt_or_ge i k with h1 | h1
            · exact hno.out i h1
            · have : i = k := by omega
              subst this; exact he)
          clear he
          go_wp2_with fail
          go_round
          case rel => exact ⟨k + 1, by omega, by go_num, HN⟩
          case measure => simp [intOf]; omega
        · have he' : (heldL xs (k : Int) != heldL ys (k : Int)) = true := by simpa using he
          have HN := Lib.hid (diffM_hit xs ys k (by rw [← HMX.out]; exact hlt) hno.out he)
          clear he
          go_wp2_with fail
          go_ret
          exact ⟨ret_int' (by rw [HXS.out, HYS.out, HN.out]), hbx⟩
      · have HN := Lib.hid (diffM_none xs ys (fun i hi => hno.out i (by rw [← HMX.out] at hi; omega)))
        go_wp2_with fail
        go_ret
        exact ⟨ret_int' (by rw [HXS.out, HYS.out, HN.out]), hbx⟩

set_option maxHeartbeats 1000000 in
theorem cloneP_any (A : Option Addr) (c lo : Nat) (ps : List (Int × Int)) (w : World) (hr : Row w lo 2 A ps.length (prs ps)) (hl : ps.length ≤ 1000000000) :
    Calls Try.prog 48 #[.slice A ps.length c] w fun e w' => ∃ A' c', e = .returned (.slice A' ps.length c') ∧ w'.ownsRow w.heap.size 39 2 (.slice A' ps.length c') ps.length (prs ps) ∧ Below w.heap.size w w' := by
  have hnil := fun (r : Option Addr) (n c : Nat) (w : World) => Lib.run_eql_slice_nil (P := Try.prog) w 26 39 r n c 0 0 Try.underlying26
  cases A with
  | none =>
    have hz : ps.length = 0 := by
      rcases Nat.eq_zero_or_pos ps.length with h | h
      · exact h
      · obtain ⟨b, off, h1, _⟩ := hr.2 h
        cases h1
    have HZ := Lib.hid hz
    clear hz
    go_enter Try.func48, Try.ntmps48
    go_wp2_with fail
    go_ret
    refine ⟨none, 0, ?_, ?_, Below.refl _ _⟩
    · rw [HZ.out]; rfl
    · have : ps = [] := List.eq_nil_of_length_eq_zero HZ.out
      subst this
      exact World.ownsRow_nil _ _ _ _
  | some ad =>
    have hown0 : (w.alloc (.cells #[] 39)).ownsRow w.heap.size 39 2 (.slice (some ⟨w.heap.size, 0, none⟩) 0 0) 0 [] := World.ownsRow_made w #[] 0 (Nat.le_refl _) (by simp [maxLen]) rfl
    go_enter Try.func48, Try.ntmps48
    go_wp2_with (at_builtin; go_must (refine wpList_app _ _ rfl _ _ ty_prs rfl hown0 rfl (hr.alloc _) rfl (prs_all _) (by omega) (by omega) (by simp) ?_))
    intro A5 c5 w5 hown5 hg5 _
    go_wp2_with fail
    go_ret
    exact ⟨A5, c5, by first | rfl | simp, hown5, below_app hown0 ((Below.refl _ _).alloc (Nat.le_refl _) _) hg5 (Nat.le_refl _) (by simp)⟩
end Go.Proofs.Ytgkjpcapoofphaa
