/- The walk of AgreedOf. -/
import Derived.Test.YtlnencloodlnbaaDoorAgB
namespace Go.Proofs.YtlnencloodlnbaaDoor
open Go.RowKit

set_option maxHeartbeats 2000000 in
theorem agreedOf_any (HSORT : SortsI) (A : Option Addr) (c lo : Nat) (l : List Int) (within : Int) (w : World) (hr : Row w lo 1 A l.length (ints l)) (hl : l.length ≤ 1000000000) (h0 : tmF l within = 0) (hpos : 0 < l.length) (hk : tmOk l within) (h5 : l.length ≤ 50) :
    Calls Tryd.prog 8 #[.slice A l.length c, .int .i64 within] w fun e w' => e = .returned (.int .i64 (agR l within)) ∧ Below w.heap.size w w' := by
  have HR := Lib.hid (agR_ok h0)
  have HK : Hid (∀ x ∈ sorted l, 0 ≤ x ∧ x ≤ 864000000) := Lib.hid (fun x hx => hk.1 x (sorted_mem.1 hx))
  have hw := hk.2
  clear hk h0
  go_enter Tryd.func8, Tryd.ntmps8
  go_wp2_with fail
  refine (cloneI_any _ _ lo l _ hr hl).mono ?_
  rintro e w4 ⟨A4, c4, rfl, hown4, hb4⟩
  obtain ⟨g, rfl, hgb, hgs, _, _⟩ := ownBlk hown4 hpos
  have hcap := own_cap hown4
  go_wp2_with fail
  refine (HSORT g c4 _ l _ hown4 hl).mono ?_
  rintro e w5 ⟨rfl, hown5, hg5⟩
  have hx5 : Below w.heap.size w w5 := hb4.grown hg5 hb4.size (fun k hk => by injection hk with hk; omega)
  have hrs := Row.of_own hown5
  have hls := sorted_len l
  rw [← hls] at hrs hpos h5 hcap ⊢
  clear hown4 hown5 hg5 hb4
  generalize hS : sorted l = s at *
  have HLS := Lib.hid hls
  clear hls hS
  go_wp2_with fail
  go_loopw [5, 14] (fun b i wr => ∃ (k : Nat) (B : Option Addr) (d q : Nat), k ≤ s.length ∧ i = .int .i64 k ∧ b = .slice B (bst s within k).2 d ∧ Row w5 w.heap.size 1 B (bst s within k).2 (ints ((s.take ((bst s within k).1 + (bst s within k).2)).drop (bst s within k).1)) ∧ wr = w5.drewN q) (fun _ i _ => s.length - (intOf i).toNat)
  case atStart => exact ⟨0, none, 0, 0, Nat.zero_le _, rfl, rfl, Row.none_ _ _ _ _, rfl⟩
  case round =>
    obtain ⟨k, B, d, q, hk, rfl, rfl, hrb, rfl⟩ := hrel
    by_cases hlt : k < s.length
    · obtain ⟨b, off, hA, _, hbs, c0⟩ := hrs.int_at hlt
      injection hA with hA
      injection hA with hA1 hA2
      subst hA1 hA2
      rw [Nat.zero_add] at c0
      have hz := HK.out s[k] (List.getElem_mem _)
      have HNEW := Lib.hid (bst_new (s := s) (within := within) (i := k))
      have HOLD := Lib.hid (bst_old (s := s) (within := within) (i := k))
      have hbl := bst_le s within k hk
      have hrl := rch_le s within k hk
      have HRB := Lib.hid hrb
      clear hrb
      go_wp2_with fail
      go_loopw [7] (fun x wr => ∃ j q : Nat, k ≤ j ∧ j ≤ s.length ∧ x = .int .i64 j ∧ Hid (∀ i, (hi : i < s.length) → k ≤ i → i < j → s[i] - s[k] ≤ within) ∧ wr = w5.drewN q) (fun x _ => s.length - (intOf x).toNat)
      case atStart => exact ⟨k, q, Nat.le_refl _, hk, rfl, Lib.hid (fun i _ h1 h2 => absurd h1 (by omega)), rfl⟩
      case round =>
        obtain ⟨j, q2, hj1, hj2, rfl, HJ, rfl⟩ := hrel
        by_cases hjl : j < s.length
        · obtain ⟨b', off', hA', _, hbs', d0⟩ := hrs.int_at hjl
          injection hA' with hA'
          injection hA' with hA1 hA2
          subst hA1 hA2
          rw [Nat.zero_add] at d0
          have hy := HK.out s[j] (List.getElem_mem _)
          have wr1 : IntKind.i64.wrap (s[j] - s[k]) = s[j] - s[k] := IntWalk.i64_in _ ⟨by omega, by omega⟩
          by_cases hin : s[j] - s[k] ≤ within
          · have HN : Hid (∀ i, (hi : i < s.length) → k ≤ i → i < j + 1 → s[i] - s[k] ≤ within) := Lib.hid (fun i hi h1 h2 => by
              rcases Nat.lt_or_ge i j with h | h
              · exact HJ.out i hi h1 h
              · have : i = j := by omega
                subst this; exact hin)
            have t1 : decide (s[j] - s[k] ≤ within) = true := by simpa using hin
            clear HNEW HOLD hin
            go_wp2_with fail
            go_quiet (fail)
            clear wr1
            go_wp2_with fail
            go_roundw
            case rel => exact ⟨j + 1, _, by omega, by omega, by go_num, HN, rfl⟩
            case measure => simp [intOf]; omega
          · have HE := Lib.hid (rch_eq hlt hj1 hj2 HJ.out (.inr ⟨hjl, hin⟩))
            have t1 : decide (s[j] - s[k] ≤ within) = false := by simpa using hin
            clear hin
            go_wp2_with fail
            go_quiet (fail)
            clear wr1 t1
            by_cases hc : (bst s within k).2 < j - k
            · have HB : Hid (bst s within (k + 1) = (k, j - k)) := Lib.hid (by rw [HNEW.out (by rw [HE.out]; exact hc), HE.out])
              have HCUT : Hid (Row w5 w.heap.size 1 (some ⟨g, k, none⟩) (j - k) (ints ((s.take (k + (j - k))).drop k))) := Lib.hid (by
                have := hrs.cut (A' := some ⟨g, k, none⟩) (i := k) (j := j) (c := c4) hj1 hj2 hcap (.inr (by simp [Addr.add]))
                rw [show k + (j - k) = j by omega]
                simpa [ints] using this)
              have hci : ¬ c4 = k := by omega
              clear HNEW HOLD
              go_wp2_with fail
              go_roundw
              case rel => exact ⟨k + 1, some ⟨g, k, none⟩, _, _, by omega, by go_num, by rw [HB.out], by rw [HB.out]; exact HCUT.out, (by first | rfl | exact World.drewN_drewN _ _ _)⟩
              case measure => simp [intOf]; omega
            · have HB : Hid (bst s within (k + 1) = bst s within k) := Lib.hid (HOLD.out (by rw [HE.out]; exact hc))
              clear HNEW HOLD
              go_wp2_with fail
              go_roundw
              case rel => exact ⟨k + 1, B, d, _, by omega, by go_num, by rw [HB.out], by rw [HB.out]; exact HRB.out, (by first | rfl | exact World.drewN_drewN _ _ _)⟩
              case measure => simp [intOf]; omega
        · have HE := Lib.hid (rch_eq hlt hj1 hj2 HJ.out (.inl (by omega)))
          have t1 : decide ((j : Int) < (s.length : Int)) = false := by simp; omega
          go_wp2_with fail
          go_quiet (fail)
          clear t1
          by_cases hc : (bst s within k).2 < j - k
          · have HB : Hid (bst s within (k + 1) = (k, j - k)) := Lib.hid (by rw [HNEW.out (by rw [HE.out]; exact hc), HE.out])
            have HCUT : Hid (Row w5 w.heap.size 1 (some ⟨g, k, none⟩) (j - k) (ints ((s.take (k + (j - k))).drop k))) := Lib.hid (by
              have := hrs.cut (A' := some ⟨g, k, none⟩) (i := k) (j := j) (c := c4) hj1 hj2 hcap (.inr (by simp [Addr.add]))
              rw [show k + (j - k) = j by omega]
              simpa [ints] using this)
            have hci : ¬ c4 = k := by omega
            clear HNEW HOLD
            go_wp2_with fail
            go_roundw
            case rel => exact ⟨k + 1, some ⟨g, k, none⟩, _, _, by omega, by go_num, by rw [HB.out], by rw [HB.out]; exact HCUT.out, (by first | rfl | exact World.drewN_drewN _ _ _)⟩
            case measure => simp [intOf]; omega
          · have HB : Hid (bst s within (k + 1) = bst s within k) := Lib.hid (HOLD.out (by rw [HE.out]; exact hc))
            clear HNEW HOLD
            go_wp2_with fail
            go_roundw
            case rel => exact ⟨k + 1, B, d, _, by omega, by go_num, by rw [HB.out], by rw [HB.out]; exact HRB.out, (by first | rfl | exact World.drewN_drewN _ _ _)⟩
            case measure => simp [intOf]; omega
    · have hkk : k = s.length := by omega
      subst hkk
      have hbl := bst_le s within s.length (Nat.le_refl _)
      by_cases h2 : 2 * (bst s within s.length).2 ≤ s.length
      · have HA := Lib.hid (agS_no h2)
        go_wp2_with fail
        go_ret
        exact ⟨ret_int' (by rw [HR.out, HA.out]), (by repeat (first | exact hx5 | refine Below.alloc ?_ (by first | omega | (simp; omega)) _ | refine below_drewN' ?_ _ | refine Below.drew ?_))⟩
      · obtain ⟨hq, ha⟩ := agS_yes h2
        have HA := Lib.hid ha
        obtain ⟨b, off, rfl, _, hbs, hc⟩ := hrb.2 (by omega)
        have c0 := hc (((bst s within s.length).2 - 1) / 2) (.int .i64 s[(bst s within s.length).1 + ((bst s within s.length).2 - 1) / 2]) (by
          simp only [ints, List.getElem?_map, List.getElem?_drop]
          rw [List.getElem?_take_of_lt (by omega), List.getElem?_eq_getElem hq]; rfl)
        clear ha hc hrb
        generalize s[(bst s within s.length).1 + ((bst s within s.length).2 - 1) / 2] = z at *
        go_wp2_with fail
        go_ret
        exact ⟨ret_int' (by rw [HR.out, HA.out]), (by repeat (first | exact hx5 | refine Below.alloc ?_ (by first | omega | (simp; omega)) _ | refine below_drewN' ?_ _ | refine Below.drew ?_))⟩
end Go.Proofs.YtlnencloodlnbaaDoor
