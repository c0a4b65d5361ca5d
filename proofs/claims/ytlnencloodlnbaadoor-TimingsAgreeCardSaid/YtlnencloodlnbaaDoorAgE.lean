/- The walks of slices.Equal over windows, slices.Grow and slices.Concat over strings, and SumsFault. -/
import Derived.Test.YtlnencloodlnbaaDoorAgM
import Derived.Lib.AppendZeros
namespace Go.Proofs.YtlnencloodlnbaaDoor
open Go.RowKit Go.Sort

set_option maxHeartbeats 1000000 in
theorem equalW_any (A B : Option Addr) (c d lo lo' : Nat) (ps qs : List (Int × Int)) (w : World) (hr : Row w lo 2 A ps.length (prs ps)) (hr' : Row w lo' 2 B qs.length (prs qs)) (hl : ps.length ≤ 1000000000) (hl' : qs.length ≤ 1000000000) :
    Calls Tryd.prog 15 #[.slice A ps.length c, .slice B qs.length d] w fun e w' => e = .returned (.bool (decide (ps = qs))) ∧ ∃ q, w' = w.drewN q := by
  by_cases hlen : ps.length = qs.length
  · have h0 : ((ps.length : Int) != (qs.length : Int)) = false := by simp [hlen]
    have HLEN := Lib.hid hlen
    clear hlen
    go_enter Tryd.func15, Tryd.ntmps15
    go_wp2_with fail
    go_loopw [13] (fun i wr => ∃ (k : Nat) (q : Nat), k ≤ ps.length ∧ i = .int .i64 k ∧ Hid (ps.take k = qs.take k) ∧ wr = w.drewN q) (fun i _ => ps.length - (intOf i).toNat)
    case atStart => exact ⟨0, 0, Nat.zero_le _, rfl, Lib.hid rfl, rfl⟩
    case round =>
      obtain ⟨k, q, hk, rfl, htk, rfl⟩ := hrel
      by_cases hlt : k < ps.length
      · obtain ⟨b, off, rfl, _, hbs, c0, c1⟩ := hr.pr_at hlt
        have hlt' : k < qs.length := by have := HLEN.out; omega
        obtain ⟨b', off', rfl, _, hbs', d0, d1⟩ := hr'.pr_at hlt'
        by_cases he : ps[k] = qs[k]
        · have HN : Hid (ps.take (k + 1) = qs.take (k + 1)) := Lib.hid (by rw [List.take_succ_eq_append_getElem hlt, List.take_succ_eq_append_getElem hlt', htk.out, he])
          rw [← he] at d0 d1
          clear he
          go_wp2_with fail
          go_quiet (fail)
          go_wp2_with fail
          go_roundw
          case rel => exact ⟨k + 1, _, by omega, by go_num, HN, rfl⟩
          case measure => simp [intOf]; omega
        · have HN : Hid (¬ ps = qs) := Lib.hid (fun h => he (by subst h; rfl))
          by_cases he1 : ps[k].1 = qs[k].1
          · have e1 : (ps[k].1 == qs[k].1) = true := by simpa using he1
            have e2 : (ps[k].2 == qs[k].2) = false := by simpa using fun h => he (Prod.ext he1 h)
            clear he he1
            go_wp2_with fail
            go_quiet (fail)
            go_wp2_with fail
            go_ret
            exact ⟨ret_bool' (by simp [HN.out]), _, World.drewN_drewN _ _ _⟩
          · have e1 : (ps[k].1 == qs[k].1) = false := by simpa using he1
            clear he he1
            go_wp2_with fail
            go_quiet (fail)
            go_wp2_with fail
            go_ret
            exact ⟨ret_bool' (by simp [HN.out]), _, World.drewN_drewN _ _ _⟩
      · have HN : Hid (ps = qs) := Lib.hid (by
          have := htk.out
          have hh := HLEN.out
          rwa [List.take_of_length_le (by omega), List.take_of_length_le (by omega)] at this)
        go_wp2_with fail
        go_ret
        exact ⟨ret_bool' (by simp [HN.out]), _, rfl⟩
  · have h0 : ((ps.length : Int) != (qs.length : Int)) = true := by rw [bne_iff_ne]; omega
    have HN : Hid (¬ ps = qs) := Lib.hid (fun h => hlen (by rw [h]))
    clear hlen
    go_enter Tryd.func15, Tryd.ntmps15
    go_wp2_with fail
    go_ret
    exact ⟨ret_bool' (by simp [HN.out]), 0, rfl⟩


set_option maxHeartbeats 400000 in
theorem growS_any (n : Nat) (w : World) (hn : n ≤ 1000000) : Calls Tryd.prog 38 #[.slice none 0 0, .int .i64 n] w fun e w' => ∃ A' c', e = .returned (.slice A' 0 c') ∧ w'.ownsRow w.heap.size 9 1 (.slice A' 0 c') 0 (strs []) ∧ Below w.heap.size w w' := by
  rcases Nat.eq_zero_or_pos n with h0 | h0
  · subst h0
    go_enter Tryd.func38, Tryd.ntmps38
    go_wp2_with fail
    go_ret
    exact ⟨none, 0, rfl, World.ownsRow_nil _ _ _ _, Below.refl _ _⟩
  · obtain ⟨i, z, hi, hz, hsize, hby, hzs⟩ := ty_strs.info
    have hg1 := grownCap_ge w n 0 9
    have hg2 := grownCap_le_maxLen w n 0 9 (by simp only [maxLen]; omega)
    have hrun := fun ty => Go.Lib.run_append_nil_zeros (P := Tryd.prog) w 33 3 ty 9 i z .i64 .i64 Tryd.underlying33 Tryd.underlying3 hi hz n h0 (by omega) (by omega) (by rw [hby]; omega)
    have hown : (w.drew.alloc (.cells (Builtin.zeroCells z.cells n ++ Builtin.zeroCells z.cells (grownCap w n 0 9 - n)) 9)).ownsRow w.heap.size 9 1 (.slice (some ⟨w.heap.size, 0, none⟩) 0 (grownCap w n 0 9)) 0 (strs []) :=
      ⟨rfl, .inr ⟨w.heap.size, _, _, rfl, Nat.le_refl _, heap_alloc_new w.drew _, Nat.zero_le _, hg2, by rw [Array.size_append, size_zeroCells, size_zeroCells, hzs]; omega, rfl⟩⟩
    obtain ⟨O, hO⟩ : ∃ O : Obj, O = .cells (Builtin.zeroCells z.cells n ++ Builtin.zeroCells z.cells (grownCap w n 0 9 - n)) 9 := ⟨_, rfl⟩
    rw [← hO] at hown
    simp only [← hO] at hrun
    generalize hcap : grownCap w n 0 9 = cap at *
    have HRUN := Lib.hid hrun
    have HOWN := Lib.hid hown
    clear hrun hcap hi hz hsize hby hzs hown hO z
    go_enter Tryd.func38, Tryd.ntmps38
    go_wp2_with (at_builtin; go_must (refine Go.Lib.wpList_append_run _ rfl _ _ _ _ rfl _ _ rfl rfl _ _ (HRUN.out _) ?_))
    go_ret
    exact ⟨_, _, rfl, HOWN.out, (by repeat (first | exact Below.refl _ _ | refine Below.alloc ?_ (by first | omega | (simp; omega)) _ | refine below_drewN' ?_ _ | refine Below.drew ?_))⟩
end Go.Proofs.YtlnencloodlnbaaDoor
