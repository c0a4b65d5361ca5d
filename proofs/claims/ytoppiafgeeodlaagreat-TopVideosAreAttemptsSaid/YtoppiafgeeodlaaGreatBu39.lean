/- Texts of this seat, laid together: SgG. -/
import Derived.Test.YtoppiafgeeodlaaGreatBu11
/- The walks of the faults of splits at any splits; slices.Index and Contains at numbers. -/
namespace Go.Proofs.YtoppiafgeeodlaaGreat
set_option linter.unusedVariables false
set_option linter.unusedSimpArgs false
open Go.RowKit

theorem splF_large {many : Nat} {l : List Int} (h : many < l.length) : splF many l = 2 := by simp [splF, h]
theorem splF_at {many : Nat} {l : List Int} (h : ¬ many < l.length) {k : Nat} (hk : k < l.length) (h0 : sgl 0 (l.take k) = 0) (hx : l[k] < 0 ∨ 864000000 < l[k]) : splF many l = 1 := by
  have h1 : sgl 0 (l.take (k + 1)) = 1 := by rw [List.take_succ_eq_append_getElem hk, sgl_snoc _ _ h0, if_pos hx]
  have h2 : sgl 0 l = 1 := by rw [sgl_stop l (k + 1) (by rw [h1]; decide), h1]
  simp [splF, h, h2]
theorem splF_ord {many : Nat} {l : List Int} (h : ¬ many < l.length) {k : Nat} (hk : k < l.length) (h0 : sgl 0 (l.take k) = 0) (hx : ¬ (l[k] < 0 ∨ 864000000 < l[k])) (hy : l[k] ≠ 0 ∧ l[k] ≤ sgM (l.take k)) : splF many l = 7 := by
  have h1 : sgl 0 (l.take (k + 1)) = 7 := by rw [List.take_succ_eq_append_getElem hk, sgl_snoc _ _ h0, if_neg hx, if_pos hy]
  have h2 : sgl 0 l = 7 := by rw [sgl_stop l (k + 1) (by rw [h1]; decide), h1]
  simp [splF, h, h2]
theorem sgl_next {l : List Int} {k : Nat} (hk : k < l.length) (h0 : sgl 0 (l.take k) = 0) (hx : ¬ (l[k] < 0 ∨ 864000000 < l[k])) (hy : ¬ (l[k] ≠ 0 ∧ l[k] ≤ sgM (l.take k))) : sgl 0 (l.take (k + 1)) = 0 := by
  rw [List.take_succ_eq_append_getElem hk, sgl_snoc _ _ h0, if_neg hx, if_neg hy]
theorem splF_end {many : Nat} {l : List Int} (h : ¬ many < l.length) (h0 : sgl 0 l = 0) (hl : l.length - 1 < l.length) : splF many l = if l[l.length - 1] = 0 then 3 else 0 := by
  have e : l.getLast? = some l[l.length - 1] := by rw [List.getLast?_eq_getElem?, List.getElem?_eq_getElem hl]
  simp [splF, h, h0, e]
theorem splF_nil {many : Nat} {l : List Int} (h0 : l.length = 0) : splF many l = 0 := by
  have : l = [] := List.eq_nil_of_length_eq_zero h0
  subst this; rfl
theorem sgl_bd (l : List Int) : ∀ (last : Int), sgl last l = 0 → ∀ x ∈ l, 0 ≤ x ∧ x ≤ 864000000 := by
  induction l with
  | nil => intro _ _ x hx; cases hx
  | cons n l ih =>
    intro last h x hx
    simp only [sgl] at h
    split at h
    · omega
    · split at h
      · omega
      · rcases List.mem_cons.1 hx with rfl | hx
        · omega
        · exact ih _ h x hx
theorem splF_ok {many : Nat} {l : List Int} (h : splF many l = 0) : SplOk many l := by
  unfold splF at h
  split at h
  · omega
  · rename_i h1
    split at h
    · rename_i h2; exact absurd h h2
    · rename_i h2
      have h2 : sgl 0 l = 0 := by simpa using h2
      split at h
      · omega
      · rename_i h3
        refine ⟨by omega, fun i hi => sgl_bd l 0 h2 _ (List.getElem_mem _), fun i hi h0 => ?_, fun hi h0 => h3 ?_⟩
        · have h4 : sgl 0 (l.take (i + 1)) = 0 := by
            rcases Int.decEq (sgl 0 (l.take (i + 1))) 0 with h | h
            · exact absurd (sgl_stop l (i + 1) h) (by rw [h2]; exact fun e => h e.symm)
            · exact h
          have h5 : sgl 0 (l.take i) = 0 := by
            rcases Int.decEq (sgl 0 (l.take i)) 0 with h | h
            · exact absurd (sgl_stop l i h) (by rw [h2]; exact fun e => h e.symm)
            · exact h
          rw [List.take_succ_eq_append_getElem hi, sgl_snoc _ _ h5] at h4
          split at h4
          · omega
          · split at h4
            · omega
            · rename_i h6
              have : ¬ (l[i] ≤ sgM (l.take i)) := fun h => h6 ⟨h0, h⟩
              omega
        · rw [List.getLast?_eq_getElem?, List.getElem?_eq_getElem hi, h0]
theorem rin_any (n lo hi : Int) (w : World) : Calls Tryz.prog 19 #[.int .i64 n, .int .i64 lo, .int .i64 hi] w fun e w' => e = .returned (.bool (decide (lo ≤ n) && decide (n ≤ hi))) ∧ w = w' := by
  go_enter Tryz.func19, Tryz.ntmps19
  by_cases h : lo ≤ n
  · have q : decide (lo ≤ n) = true := by simpa using h
    rw [q]
    go_wp2_with fail
    go_ret
    exact ⟨by simp, rfl⟩
  · have q : decide (lo ≤ n) = false := by simpa using h
    rw [q]
    go_wp2_with fail
    go_ret
    exact ⟨by simp, rfl⟩
set_option maxHeartbeats 1000000 in
theorem rsplitsFault_any (many : Nat) (B : Option Addr) (c lo : Nat) (l : List Int) (w : World) (hr : Row w lo 1 B l.length (ints l)) (hm : many ≤ 1000000000) (hl : l.length ≤ 1000000000) :
    Calls Tryz.prog 7 #[.int .i64 many, .slice B l.length c] w fun e w' => e = .returned (.int .i64 (splF many l)) ∧ w = w' := by
  by_cases hL : many < l.length
  · have d9 : decide (many < l.length) = true := by simpa using hL
    rw [splF_large hL]
    go_enter Tryz.func7, Tryz.ntmps7
    go_wp2_with fail
    go_ret
    exact ⟨rfl, rfl⟩
  have d9 : decide (many < l.length) = false := by simpa using hL
  have HL := Lib.hid hL
  clear hL
  go_enter Tryz.func7, Tryz.ntmps7
  go_wp2_with fail
  go_loop [4, 5, 14] (fun _ v i => ∃ k : Nat, k ≤ l.length ∧ i = .int .i64 k ∧ v = .int .i64 (sgM (l.take k)) ∧ Hid (sgl 0 (l.take k) = 0)) (fun _ _ i => l.length - (intOf i).toNat)
  case atStart => exact ⟨0, Nat.zero_le _, rfl, rfl, Lib.hid rfl⟩
  case round =>
    obtain ⟨k, hk, rfl, rfl, H0⟩ := hrel
    by_cases hlt : k < l.length
    · obtain ⟨b, off, rfl, _, hbs, c0⟩ := hr.int_at hlt
      have HA := Lib.hid (fun h => splF_at HL.out hlt H0.out h)
      have HB := Lib.hid (fun h h' => splF_ord HL.out hlt H0.out h h')
      have HN := Lib.hid (fun h h' => sgl_next hlt H0.out h h')
      have HT := Lib.hid (sgM_take l k hlt)
      have g0 := sgM_nonneg (l.take k)
      generalize l[k] = x at *
      generalize sgM (l.take k) = last at *
      go_wp2_with fail
      refine (rin_any _ _ _ _).mono ?_
      rintro e w1 ⟨rfl, rfl⟩
      by_cases h1 : x < 0 ∨ 864000000 < x
      · have d0 : (decide (0 ≤ x) && decide (x ≤ 864000000)) = false := by simp; omega
        rw [d0]
        have HE := Lib.hid (HA.out h1)
        clear d0 h1 HA HB HN HT
        go_wp2_with fail
        go_ret
        exact ⟨by rw [HE.out]; rfl, rfl⟩
      · have d0 : (decide (0 ≤ x) && decide (x ≤ 864000000)) = true := by simp; omega
        rw [d0]
        have HB1 := Lib.hid (fun h' => HB.out h1 h')
        have HN1 := Lib.hid (fun h' => HN.out h1 h')
        clear d0 h1 HA HB HN
        by_cases hx : x = 0
        · have HX : Hid (sgM (l.take (k + 1)) = last) := Lib.hid (by rw [HT.out]; omega)
          have H1 := Lib.hid (HN1.out (fun h => h.1 hx))
          have d1 : (x != 0) = false := by simpa using hx
          have d2 : ¬ last < x := by omega
          have d3 : x ≤ last := by omega
          clear hx HB1 HN1
          go_wp2_with fail
          go_round
          case rel => exact ⟨k + 1, by omega, by go_num, by rw [HT.out], H1⟩
          case measure => simp [intOf]; omega
        · have d1 : (x != 0) = true := by simpa using hx
          by_cases h2 : x ≤ last
          · have d2 : decide (x ≤ last) = true := by simpa using h2
            have HE := Lib.hid (HB1.out ⟨hx, h2⟩)
            clear hx h2 HT HB1 HN1
            go_wp2_with fail
            go_ret
            exact ⟨by rw [HE.out]; rfl, rfl⟩
          · have d2 : decide (x ≤ last) = false := by simpa using h2
            have HX : Hid (sgM (l.take (k + 1)) = x) := Lib.hid (by rw [HT.out]; omega)
            have H1 := Lib.hid (HN1.out (fun h => h2 h.2))
            clear hx HB1 HN1
            go_wp2_with fail
            go_round
            case rel => exact ⟨k + 1, by omega, by go_num, by rw [HT.out], H1⟩
            case measure => simp [intOf]; omega
    · have hkl : k = l.length := by omega
      have H1 : Hid (sgl 0 l = 0) := Lib.hid (by have := H0.out; rw [hkl, List.take_length] at this; exact this)
      by_cases h0 : 0 < l.length
      · have HE := Lib.hid (splF_end HL.out H1.out (show l.length - 1 < l.length by omega))
        obtain ⟨b, off, rfl, _, hbs, c0⟩ := hr.int_at (k := l.length - 1) (by omega)
        have d2 : decide (0 < l.length) = true := by simpa using h0
        generalize l[l.length - 1] = x at *
        by_cases hx : x = 0
        · have HE1 : Hid (splF many l = 3) := Lib.hid (by rw [HE.out, if_pos hx])
          have d1 : (x == 0) = true := by simpa using hx
          clear hx HE
          go_wp2_with fail
          go_ret
          exact ⟨by rw [HE1.out]; rfl, rfl⟩
        · have HE1 : Hid (splF many l = 0) := Lib.hid (by rw [HE.out, if_neg hx])
          have d1 : (x == 0) = false := by simpa using hx
          clear hx HE
          go_wp2_with fail
          go_ret
          exact ⟨by rw [HE1.out]; rfl, rfl⟩
      · have HE := Lib.hid (splF_nil (many := many) (show l.length = 0 by omega))
        have d2 : decide (0 < l.length) = false := by simpa using h0
        go_wp2_with fail
        go_ret
        exact ⟨by rw [HE.out]; rfl, rfl⟩
end Go.Proofs.YtoppiafgeeodlaaGreat
