/- The walks of what checks an input: bounds, frames, CheckInput and its reference. -/
import Derived.Test.YtnlblgkoecnfmaaDoorInp
import Derived.Test.YtnlblgkoecnfmaaDoorPieces
namespace Go.Proofs.YtnlblgkoecnfmaaDoor
set_option linter.unusedVariables false
set_option linter.unusedSimpArgs false
open Go.RowKit

set_option maxHeartbeats 400000 in
theorem out_any (n lo hi : Int) (w : World) :
    Calls Tryd.prog 79 #[.int .i64 n, .int .i64 lo, .int .i64 hi] w fun e w' => e = .returned (.bool (decide (n < lo) || decide (hi < n))) ∧ w = w' := by
  by_cases h : n < lo
  · go_enter Tryd.func79, Tryd.ntmps79
    go_wp2
    go_ret
    exact ⟨by simp [h], rfl⟩
  · have h' : decide (n < lo) = false := by simpa using h
    go_enter Tryd.func79, Tryd.ntmps79
    go_wp2
    go_ret
    exact ⟨by simp, rfl⟩

set_option maxHeartbeats 400000 in
theorem in_any (n lo hi : Int) (w : World) :
    Calls Tryd.prog 29 #[.int .i64 n, .int .i64 lo, .int .i64 hi] w fun e w' => e = .returned (.bool (decide (lo ≤ n) && decide (n ≤ hi))) ∧ w = w' := by
  by_cases h : lo ≤ n
  · go_enter Tryd.func29, Tryd.ntmps29
    go_wp2
    go_ret
    exact ⟨by simp [h], rfl⟩
  · have h' : decide (lo ≤ n) = false := by simpa using h
    go_enter Tryd.func29, Tryd.ntmps29
    go_wp2
    go_ret
    exact ⟨by simp, rfl⟩

/-- The fault of a number out of its span. -/
def spanFault (n lo hi : Int) : Int := if lo ≤ n ∧ n ≤ hi then 0 else 1

set_option maxHeartbeats 400000 in
theorem frames_any (A : Option Addr) (c lo : Nat) (ps : List (Int × Int)) (w : World) (hr : Row w lo 2 A ps.length (prs ps)) (hl : ps.length ≤ 1000000000) (hb : ∀ p ∈ ps, 0 ≤ p.2) (hs : psum ps ≤ 1000000000000000) :
    Calls Tryd.prog 61 #[.slice A ps.length c] w fun e w' => e = .returned (.int .i64 (psum ps)) ∧ Below w.heap.size w w' := by
  go_enter Tryd.func61, Tryd.ntmps61
  go_wp2
  go_loopw [3, 8] (fun n i wr => ∃ k : Nat, k ≤ ps.length ∧ i = .int .i64 k ∧ n = .int .i64 (psum (ps.take k)) ∧ Below w.heap.size w wr) (fun _ i _ => ps.length - (intOf i).toNat)
  case atStart => exact ⟨0, Nat.zero_le _, rfl, rfl, Below.refl _ _⟩
  case round =>
    obtain ⟨k, hk, rfl, rfl, hbw⟩ := hrel
    by_cases hlt : k < ps.length
    · obtain ⟨b, off, rfl, _, hbs, c0, c1⟩ := (hr.below hbw).pr_at hlt
      have ht := psum_take ps k hlt
      have h1 := psum_take_le ps k hb
      have h2 := psum_take_le ps (k + 1) hb
      have HT := Lib.hid ht
      rw [ht] at h2
      clear ht
      go_wp2
      go_roundw
      case rel => exact ⟨k + 1, by omega, by go_num, by rw [HT.out], hbw.alloc hbw.size _⟩
      case measure => simp [intOf]; omega
    · go_wp2
      go_ret
      exact ⟨ret_int' (by rw [List.take_of_length_le (by omega)]), hbw⟩

set_option maxHeartbeats 1000000 in
theorem checkInput_any (A : Option Addr) (c lo : Nat) (ps : List (Int × Int)) (w : World) (hr : Row w lo 2 A ps.length (prs ps)) (hl : ps.length ≤ 1000000000) :
    Calls Tryd.prog 59 #[.slice A ps.length c] w fun e w' => e = .returned (.int .i64 (inFault ps)) ∧ Below w.heap.size w w' := by
  by_cases hlong : 5000 < ps.length
  · have HF := Lib.hid (inFault_long ps hlong)
    go_enter Tryd.func59, Tryd.ntmps59
    go_wp2_with fail
    go_ret
    exact ⟨ret_int' HF.out.symm, Below.refl _ _⟩
  · go_enter Tryd.func59, Tryd.ntmps59
    go_wp2_with fail
    go_loopw [10] (fun i wr => ∃ k : Nat, k ≤ ps.length ∧ i = .int .i64 k ∧ Hid (∀ p ∈ ps.take k, vld p = true) ∧ Below w.heap.size w wr) (fun i _ => ps.length - (intOf i).toNat)
    case atStart => exact ⟨0, Nat.zero_le _, rfl, Lib.hid (by simp), Below.refl _ _⟩
    case round =>
      obtain ⟨k, hk, rfl, hv, hbw⟩ := hrel
      by_cases hlt : k < ps.length
      · obtain ⟨b, off, rfl, _, hbs, c0, c1⟩ := (hr.below hbw).pr_at hlt
        go_wp2_with fail
        refine (out_any _ _ _ _).mono ?_
        rintro e w1 ⟨rfl, rfl⟩
        by_cases h1 : 0 ≤ ps[k].1 ∧ ps[k].1 ≤ 63
        · have h1' : (decide (ps[k].1 < 0) || decide (63 < ps[k].1)) = false := by simp; omega
          rw [h1']
          go_wp2_with fail
          refine (out_any _ _ _ _).mono ?_
          rintro e w1 ⟨rfl, rfl⟩
          by_cases h2 : 1 ≤ ps[k].2 ∧ ps[k].2 ≤ 200000
          · have h2' : (decide (ps[k].2 < 1) || decide (200000 < ps[k].2)) = false := by simp; omega
            have HV := Lib.hid (take_all_vld hv.out hlt ((vld_iff _).2 ⟨h1.1, h1.2, h2.1, h2.2⟩))
            rw [h2']
            go_wp2_with fail
            go_roundw
            case rel => exact ⟨k + 1, by omega, by go_num, HV, hbw.alloc hbw.size _⟩
            case measure => simp [intOf]; omega
          · have h2' : (decide (ps[k].2 < 1) || decide (200000 < ps[k].2)) = true := by simp; omega
            have HF := Lib.hid (inFault_bad ps k (by omega) hlt (by rw [Bool.eq_false_iff]; intro h; rw [vld_iff] at h; omega))
            rw [h2']
            go_wp2_with fail
            go_ret
            exact ⟨ret_int' HF.out.symm, hbw.alloc hbw.size _⟩
        · have h1' : (decide (ps[k].1 < 0) || decide (63 < ps[k].1)) = true := by simp; omega
          have HF := Lib.hid (inFault_bad ps k (by omega) hlt (by rw [Bool.eq_false_iff]; intro h; rw [vld_iff] at h; omega))
          rw [h1']
          go_wp2_with fail
          go_ret
          exact ⟨ret_int' HF.out.symm, hbw.alloc hbw.size _⟩
      · have hv' : ∀ p ∈ ps, vld p = true := by have := hv.out; rwa [List.take_of_length_le (by omega)] at this
        have hp : ∀ p ∈ ps, 0 ≤ p.2 ∧ p.2 ≤ 200000 := fun p hp => by have := (vld_iff p).1 (hv' p hp); omega
        have HF := Lib.hid (inFault_good ps (by omega) hv')
        have hs := psum_le ps 200000 (by omega) fun p h => (hp p h).2
        clear hv'
        go_wp2_with fail
        refine (frames_any _ _ _ ps _ (hr.below hbw) hl (fun p h => (hp p h).1) (by omega)).mono ?_
        rintro e w1 ⟨rfl, hb1⟩
        clear hp
        by_cases h2 : 200000 < psum ps
        · go_wp2_with fail
          go_ret
          exact ⟨ret_int' (by rw [HF.out, if_pos h2]), below_up hbw hb1⟩
        · go_wp2_with fail
          go_ret
          exact ⟨ret_int' (by rw [HF.out, if_neg (by omega)]), below_up hbw hb1⟩

set_option maxHeartbeats 1000000 in
theorem inputFault_any (A : Option Addr) (c lo : Nat) (ps : List (Int × Int)) (w : World) (hr : Row w lo 2 A ps.length (prs ps)) (hl : ps.length ≤ 1000000000) :
    Calls Tryd.prog 11 #[.slice A ps.length c] w fun e w' => e = .returned (.int .i64 (inFault ps)) ∧ Below w.heap.size w w' := by
  by_cases hlong : 5000 < ps.length
  · have HF := Lib.hid (inFault_long ps hlong)
    go_enter Tryd.func11, Tryd.ntmps11
    go_wp2_with fail
    go_ret
    exact ⟨ret_int' HF.out.symm, Below.refl _ _⟩
  · go_enter Tryd.func11, Tryd.ntmps11
    go_wp2_with fail
    go_loopw [3, 11] (fun n i wr => ∃ k : Nat, k ≤ ps.length ∧ i = .int .i64 k ∧ n = .int .i64 (psum (ps.take k)) ∧ 0 ≤ psum (ps.take k) ∧ psum (ps.take k) ≤ 200000 * k ∧ Hid (∀ p ∈ ps.take k, vld p = true) ∧ Below w.heap.size w wr) (fun _ i _ => ps.length - (intOf i).toNat)
    case atStart => exact ⟨0, Nat.zero_le _, rfl, rfl, by simp [psum], by simp [psum], Lib.hid (by simp), Below.refl _ _⟩
    case round =>
      obtain ⟨k, hk, rfl, rfl, hs0, hs1, hv, hbw⟩ := hrel
      by_cases hlt : k < ps.length
      · obtain ⟨b, off, rfl, _, hbs, c0, c1⟩ := (hr.below hbw).pr_at hlt
        go_wp2_with fail
        refine (in_any _ _ _ _).mono ?_
        rintro e w1 ⟨rfl, rfl⟩
        by_cases h1 : 0 ≤ ps[k].1 ∧ ps[k].1 ≤ 63
        · have h1' : (decide (0 ≤ ps[k].1) && decide (ps[k].1 ≤ 63)) = true := by simp; omega
          rw [h1']
          go_wp2_with fail
          refine (in_any _ _ _ _).mono ?_
          rintro e w1 ⟨rfl, rfl⟩
          by_cases h2 : 1 ≤ ps[k].2 ∧ ps[k].2 ≤ 200000
          · have h2' : (decide (1 ≤ ps[k].2) && decide (ps[k].2 ≤ 200000)) = true := by simp; omega
            have HV := Lib.hid (take_all_vld hv.out hlt ((vld_iff _).2 ⟨h1.1, h1.2, h2.1, h2.2⟩))
            have HT := Lib.hid (psum_take ps k hlt)
            rw [h2']
            obtain ⟨h21, h22⟩ := h2
            go_wp2_with fail
            go_roundw
            case rel => exact ⟨k + 1, by omega, by go_num, by rw [HT.out], by rw [HT.out]; omega, by rw [HT.out]; omega, HV, hbw.alloc hbw.size _⟩
            case measure => simp [intOf]; omega
          · have h2' : (decide (1 ≤ ps[k].2) && decide (ps[k].2 ≤ 200000)) = false := by simp; omega
            have HF := Lib.hid (inFault_bad ps k (by omega) hlt (by rw [Bool.eq_false_iff]; intro h; rw [vld_iff] at h; omega))
            rw [h2']
            go_wp2_with fail
            go_ret
            exact ⟨ret_int' HF.out.symm, hbw.alloc hbw.size _⟩
        · have h1' : (decide (0 ≤ ps[k].1) && decide (ps[k].1 ≤ 63)) = false := by simp; omega
          have HF := Lib.hid (inFault_bad ps k (by omega) hlt (by rw [Bool.eq_false_iff]; intro h; rw [vld_iff] at h; omega))
          rw [h1']
          go_wp2_with fail
          go_ret
          exact ⟨ret_int' HF.out.symm, hbw.alloc hbw.size _⟩
      · have hv' : ∀ p ∈ ps, vld p = true := by have := hv.out; rwa [List.take_of_length_le (by omega)] at this
        have HF := Lib.hid (inFault_good ps (by omega) hv')
        have ht : ps.take k = ps := List.take_of_length_le (by omega)
        rw [ht] at hs0 hs1
        rw [ht]
        clear hv' ht
        by_cases h2 : 200000 < psum ps
        · go_wp2_with fail
          go_ret
          exact ⟨ret_int' (by rw [HF.out, if_pos h2]), hbw⟩
        · go_wp2_with fail
          go_ret
          exact ⟨ret_int' (by rw [HF.out, if_neg (by omega)]), hbw⟩

end Go.Proofs.YtnlblgkoecnfmaaDoor
