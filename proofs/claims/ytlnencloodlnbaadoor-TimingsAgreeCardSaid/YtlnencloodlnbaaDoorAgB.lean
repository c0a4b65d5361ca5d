/- The walk of Agreed. -/
import Derived.Test.YtlnencloodlnbaaDoorSortD
namespace Go.Proofs.YtlnencloodlnbaaDoor
open Go.RowKit

theorem tmBad_iff (l : List Int) (within : Int) : (l ++ [within]).any tmBad = false ↔ tmOk l within := by
  rw [List.any_eq_false]
  unfold tmOk tmBad
  constructor
  · intro h
    refine ⟨fun x hx => ?_, ?_⟩
    · have := h x (by simp [hx]); simp at this; omega
    · have := h within (by simp); simp at this; omega
  · rintro ⟨h1, h2⟩ x hx
    rcases List.mem_append.1 hx with hx | hx
    · have := h1 x hx; simp; omega
    · simp at hx; subst hx; simp; omega
theorem agR_bad {l : List Int} {within : Int} (h : ¬ tmF l within = 0) : agR l within = -1 := by rw [agR, if_neg h]
theorem agR_ok {l : List Int} {within : Int} (h : tmF l within = 0) : agR l within = agS (sorted l) within := by rw [agR, if_pos h]
theorem ret3_is {a b c x y z : Value} (h1 : a = x) (h2 : b = y) (h3 : c = z) : Ending.returned (.tuple #[a, b, c]) = .returned (.tuple #[x, y, z]) := by rw [h1, h2, h3]

set_option maxHeartbeats 2000000 in
theorem agreed_any (HSORT : SortsI) (A : Option Addr) (c lo : Nat) (l : List Int) (within : Int) (w : World) (hr : Row w lo 1 A l.length (ints l)) (hl : l.length ≤ 1000000000) :
    Calls Tryd.prog 6 #[.slice A l.length c, .int .i64 within] w fun e w' => e = .returned (.tuple #[.int .i64 (max (agR l within) 0), .bool (decide (0 ≤ agR l within)), .int .i64 (tmF l within)]) ∧ Below w.heap.size w w' := by
  by_cases h0 : l.length = 0
  · have HF := Lib.hid (tmF_none (within := within) h0)
    have HR := Lib.hid (agR_bad (l := l) (within := within) (by rw [HF.out]; omega))
    have h0' : ((l.length : Int) == 0) = true := by simp [h0]
    clear h0
    go_enter Tryd.func6, Tryd.ntmps6
    go_wp2_with fail
    go_ret3
    exact ⟨ret3_is (by rw [HR.out]; rfl) (by rw [HR.out]; rfl) (by rw [HF.out]; rfl), Below.refl _ _⟩
  · have h0' : ((l.length : Int) == 0) = false := by rw [beq_eq_false_iff_ne]; omega
    by_cases h5 : 50 < l.length
    · have HF := Lib.hid (tmF_large (within := within) h5)
      have HR := Lib.hid (agR_bad (l := l) (within := within) (by rw [HF.out]; omega))
      clear h0
      go_enter Tryd.func6, Tryd.ntmps6
      go_wp2_with fail
      go_ret3
      exact ⟨ret3_is (by rw [HR.out]; rfl) (by rw [HR.out]; rfl) (by rw [HF.out]; rfl), Below.refl _ _⟩
    · have HOK := Lib.hid (tmF_ok (within := within) h0 h5)
      have HAR := Lib.hid (tmF_arg (within := within) h0 h5)
      have HB := Lib.hid (tmBad_iff l within)
      have hpos : 0 < l.length := by omega
      clear h0
      go_enter Tryd.func6, Tryd.ntmps6
      go_wp2_with fail
      refine (cloneI_any _ _ lo l _ hr hl).mono ?_
      rintro e w1 ⟨A1, c1, rfl, hown1, hb1⟩
      have z1 := hb1.size
      clear h0'
      go_wp2_with (at_builtin; go_must (refine wpList_app (lo := w.heap.size) (base := w.heap.size) (n := l.length) (xs := ints l) _ _ rfl _ _ ty_ints rfl (by repeat (first | exact hown1 | refine World.ownsRow.alloc ?_ _ | refine own_drewN ?_ _ | refine World.ownsRow.drew ?_)) rfl (by first | exact row_new' _ (by first | rfl | simp) (by first | omega | (simp; omega)) rfl | exact row_newN _ _ (by first | rfl | simp) (by first | omega | (simp; omega)) rfl | exact row_newD _ (by first | rfl | simp) (by first | omega | (simp; omega)) rfl) rfl rfl (by first | omega | decide) (by first | omega | decide) (by first | omega | (simp; omega)) ?_))
      intro A2 c2 w2 hown2 hg2 _
      have hb2 : Below w.heap.size w w2 := below_app hown1 (by repeat (first | exact hb1 | refine Below.alloc ?_ (by first | omega | (simp; omega)) _ | refine below_drewN' ?_ _ | refine Below.drew ?_)) hg2 (Nat.le_refl _) (by simp; omega)
      have hcf := containsFuncI_any A2 c2 w.heap.size (l ++ [within]) w2 (by simpa [ints] using Row.of_own hown2) (by simp; omega)
      rw [List.length_append, List.length_cons, List.length_nil, Nat.zero_add] at hcf
      clear hb1 hown1 hg2 hown2
      go_wp2_with fail
      refine hcf.mono ?_
      rintro e w3 ⟨rfl, rfl⟩
      clear hcf
      by_cases hk : tmOk l within
      · have hf : (l ++ [within]).any tmBad = false := HB.out.2 hk
        rw [hf]
        have HF := Lib.hid (HOK.out hk)
        have HR := Lib.hid (agR_ok HF.out)
        have HK : Hid (∀ x ∈ sorted l, 0 ≤ x ∧ x ≤ 864000000) := Lib.hid (fun x hx => hk.1 x (sorted_mem.1 hx))
        have hw := hk.2
        clear hf HB HOK HAR hk
        go_wp2_with fail
        refine (cloneI_any _ _ lo l _ (hr.below hb2) hl).mono ?_
        rintro e w4 ⟨A4, c4, rfl, hown4, hb4⟩
        obtain ⟨g, rfl, hgb, hgs, _, _⟩ := ownBlk hown4 hpos
        have hx4 := below_up hb2 hb4
        clear hb4
        go_wp2_with fail
        refine (HSORT g c4 _ l _ hown4 hl).mono ?_
        rintro e w5 ⟨rfl, hown5, hg5⟩
        have hx5 : Below w.heap.size w w5 := hx4.grown hg5 hx4.size (fun k hk => by have := hb2.size; injection hk with hk; omega)
        have hrs := Row.of_own hown5
        have hls := sorted_len l
        rw [← hls] at hrs hpos h5 ⊢
        clear hown4 hown5 hg5 hx4 hb2
        generalize hS : sorted l = s at *
        have HLS := Lib.hid hls
        clear hls hS
        go_wp2_with fail
        go_loop [7, 8, 33] (fun b m i => ∃ k : Nat, k ≤ s.length ∧ i = .int .i64 k ∧ b = .int .i64 (bst s within k).1 ∧ m = .int .i64 (bst s within k).2) (fun _ _ i => s.length - (intOf i).toNat)
        case atStart => exact ⟨0, Nat.zero_le _, rfl, rfl, rfl⟩
        case round =>
          obtain ⟨k, hk, rfl, rfl, rfl⟩ := hrel
          by_cases hlt : k < s.length
          · obtain ⟨b, off, hA, _, hbs, c0⟩ := hrs.int_at hlt
            injection hA with hA
            injection hA with hA1 hA2
            subst hA1 hA2
            rw [Nat.zero_add] at c0
            have hz := HK.out s[k] (List.getElem_mem _)
            have HNEW := Lib.hid (bst_new (s := s) (within := within) (i := k))
            have HOLD := Lib.hid (bst_old (s := s) (within := within) (i := k))
            have HRE := Lib.hid (fun j => rch_eq (s := s) (within := within) (k := j) hlt)
            have hbl := bst_le s within k hk
            have hrl := rch_le s within k hk
            go_wp2_with fail
            go_loop [11] (fun x => ∃ j : Nat, k ≤ j ∧ j ≤ s.length ∧ x = .int .i64 j ∧ Hid (∀ i, (hi : i < s.length) → k ≤ i → i < j → s[i] - s[k] ≤ within)) (fun x => s.length - (intOf x).toNat)
            case atStart => exact ⟨k, Nat.le_refl _, hk, rfl, Lib.hid (fun i _ h1 h2 => absurd h1 (by omega))⟩
            case round =>
              obtain ⟨j, hj1, hj2, rfl, HJ⟩ := hrel
              by_cases hjl : j < s.length
              · obtain ⟨b', off', hA', _, hbs', d0⟩ := hrs.int_at hjl
                injection hA' with hA'
                injection hA' with hA1 hA2
                subst hA1 hA2
                rw [Nat.zero_add] at d0
                have hy := HK.out s[j] (List.getElem_mem _)
                by_cases hin : s[j] - s[k] ≤ within
                · have HN : Hid (∀ i, (hi : i < s.length) → k ≤ i → i < j + 1 → s[i] - s[k] ≤ within) := Lib.hid (fun i hi h1 h2 => by
                    rcases Nat.lt_or_ge i j with h | h
                    · exact HJ.out i hi h1 h
                    · have : i = j := by omega
                      subst this; exact hin)
                  clear HRE HNEW HOLD
                  go_wp2_with fail
                  go_round
                  case rel => exact ⟨j + 1, by omega, by omega, by go_num, HN⟩
                  case measure => simp [intOf]; omega
                · have HE := Lib.hid (rch_eq hlt hj1 hj2 HJ.out (.inr ⟨hjl, hin⟩))
                  clear HRE
                  by_cases hc : (bst s within k).2 < j - k
                  · have HB : Hid (bst s within (k + 1) = (k, j - k)) := Lib.hid (by rw [HNEW.out (by rw [HE.out]; exact hc), HE.out])
                    clear HNEW HOLD
                    go_wp2_with fail
                    go_round
                    case rel => exact ⟨k + 1, by omega, by go_num, by rw [HB.out], by rw [HB.out]; congr 1; simp; omega⟩
                    case measure => simp [intOf]; omega
                  · have HB : Hid (bst s within (k + 1) = bst s within k) := Lib.hid (HOLD.out (by rw [HE.out]; exact hc))
                    clear HNEW HOLD
                    go_wp2_with fail
                    go_round
                    case rel => exact ⟨k + 1, by omega, by go_num, by rw [HB.out], by rw [HB.out]⟩
                    case measure => simp [intOf]; omega
              · have HE := Lib.hid (rch_eq hlt hj1 hj2 HJ.out (.inl (by omega)))
                clear HRE
                by_cases hc : (bst s within k).2 < j - k
                · have HB : Hid (bst s within (k + 1) = (k, j - k)) := Lib.hid (by rw [HNEW.out (by rw [HE.out]; exact hc), HE.out])
                  clear HNEW HOLD
                  go_wp2_with fail
                  go_round
                  case rel => exact ⟨k + 1, by omega, by go_num, by rw [HB.out], by rw [HB.out]; congr 1; simp; omega⟩
                  case measure => simp [intOf]; omega
                · have HB : Hid (bst s within (k + 1) = bst s within k) := Lib.hid (HOLD.out (by rw [HE.out]; exact hc))
                  clear HNEW HOLD
                  go_wp2_with fail
                  go_round
                  case rel => exact ⟨k + 1, by omega, by go_num, by rw [HB.out], by rw [HB.out]⟩
                  case measure => simp [intOf]; omega
          · have hkk : k = s.length := by omega
            subst hkk
            have hbl := bst_le s within s.length (Nat.le_refl _)
            by_cases h2 : 2 * (bst s within s.length).2 ≤ s.length
            · have HA := Lib.hid (agS_no h2)
              go_wp2_with fail
              go_ret3
              exact ⟨ret3_is (by rw [HR.out, HA.out]; rfl) (by rw [HR.out, HA.out]; rfl) (by rw [HF.out]; rfl), hx5⟩
            · obtain ⟨hq, ha⟩ := agS_yes h2
              have HA := Lib.hid ha
              obtain ⟨b, off, hA, _, hbs, c0⟩ := hrs.int_at hq
              injection hA with hA
              injection hA with hA1 hA2
              subst hA1 hA2
              rw [Nat.zero_add] at c0
              have hz := HK.out _ (List.getElem_mem hq)
              clear ha
              generalize s[(bst s within s.length).1 + ((bst s within s.length).2 - 1) / 2] = z at *
              go_wp2_with fail
              go_ret3
              exact ⟨ret3_is (by rw [HR.out, HA.out, Int.max_eq_left hz.1]; rfl) (by rw [HR.out, HA.out, decide_eq_true hz.1]; rfl) (by rw [HF.out]; rfl), hx5⟩
      · have hf : (l ++ [within]).any tmBad = true := by
          cases h : (l ++ [within]).any tmBad
          · exact absurd (HB.out.1 h) hk
          · rfl
        rw [hf]
        have HF := Lib.hid (HAR.out hk)
        have HR := Lib.hid (agR_bad (l := l) (within := within) (by rw [HF.out]; omega))
        clear hf hk
        go_wp2_with fail
        go_ret3
        exact ⟨ret3_is (by rw [HR.out]; rfl) (by rw [HR.out]; rfl) (by rw [HF.out]; rfl), hb2⟩
end Go.Proofs.YtlnencloodlnbaaDoor
