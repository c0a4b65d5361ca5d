/- Texts of this seat, laid together: Mt. -/
import Derived.Test.YtapjahbflhingaaGreatDoorBu49
import Derived.Test.YtapjahbflhingaaGreatDoorBu50
/- The walk of segment.sums. -/
namespace Go.Proofs.YtapjahbflhingaaGreatDoor
set_option linter.unusedVariables false
set_option linter.unusedSimpArgs false
open Go.RowKit Go.Maps

theorem i64_sm {x : Int} (h1 : -1000000000000000 ≤ x) (h2 : x ≤ 1000000000000000) : I64 x := by unfold I64; omega
theorem pj_wrap {f : Int → Int} {n : Nat} (hf : ∀ s, 0 ≤ f s ∧ f s ≤ n) {left : Int → Bool} {x : Int} (hx : left x = true) (row : List Int) (j : Nat) (s : Int) (hT : n * row.length ≤ 100000000) (hT0 : n ≤ 100000000) : IntKind.i64.wrap (pj f left row x j s + f x) = pj f left row x j s + f x ∧ I64 (pj f left row x j s + f x) := by
  have h1 := pj_bd hf hx row j s
  have h2 := hf x
  have e : (row.length : Int) * (n : Int) = ((n * row.length : Nat) : Int) := by rw [Int.natCast_mul, Int.mul_comm]
  rw [e] at h1
  exact ⟨IntWalk.i64_in _ (by omega), by unfold I64; omega⟩
set_option maxHeartbeats 4000000 in
set_option maxRecDepth 100000 in
theorem sums_any (g base c : Nat) (rows : List (List Int)) (w : World) (hN : Nest 3 22 w base g rows) (h6 : rows.length ≤ 60) (hr : ∀ r ∈ rows, ∀ x ∈ r, 0 ≤ x ∧ x ≤ 864000000) (hT : ∀ k, k ≤ rows.length → waysN (rows.take k) ≤ 100000000) :
    Calls Tryz.prog 55 #[.slice (some ⟨g, 0, none⟩) rows.length c] w fun e w' => ∃ b n, e = .returned (.map (some b)) ∧ MapF w' b n (rows.length * 864000000) (cntL rows) ∧ Below w.heap.size w w' ∧ n ≤ 100000000 ∧ w.heap.size ≤ b := by
  have HT := Lib.hid hT
  have HR := Lib.hid hr
  clear hT hr
  have hmm := @run_makeMap Tryz.prog
  have hgl := hN.lt
  have M0 : MapF (w.alloc (.map #[] 0)) w.heap.size 0 0 (fun _ => 0) := MapF.made w 0
  have hb0 : Below w.heap.size w (w.alloc (.map #[] 0)) := (Below.refl _ _).alloc (Nat.le_refl _) _
  go_enter Tryz.func55, Tryz.ntmps55
  go_wp2_with (first
    | (refine wpList_insF rfl _ _ _ rfl rfl M0 (by unfold maxLen; omega) 0 1 (i64_sm (by omega) (by omega)) (i64_sm (by omega) (by omega)) (by omega) rfl rfl ?_; intro w1 hM1 hg1)
    | fail)
  have hb1 : Below w.heap.size w w1 := hb0.grown hg1 (by simp) (fun k hk => by cases hk; exact Nat.le_refl _)
  have hM1' : MapF w1 w.heap.size (waysN (rows.take 0)) ((0 : Nat) * 864000000) (cntL (rows.take 0)) := by
    have e : putF (fun _ => 0) 0 1 = cntL (rows.take 0) := rfl
    rw [← e]; exact hM1
  clear M0 hb0 hM1 hg1
  go_loopw [3, 15] (fun o i wr => ∃ (k b : Nat), k ≤ rows.length ∧ i = .int .i64 k ∧ o = .map (some b) ∧ MapF wr b (waysN (rows.take k)) (k * 864000000) (cntL (rows.take k)) ∧ Below w.heap.size w wr ∧ w.heap.size ≤ b) (fun _ i _ => rows.length - (intOf i).toNat)
  case atStart => exact ⟨0, w.heap.size, Nat.zero_le _, rfl, rfl, hM1', hb1, Nat.le_refl _⟩
  case round =>
    clear hM1' hb1
    obtain ⟨k, b, hk, rfl, rfl, hM, hbw, hbb⟩ := hrel
    have hz := hbw.size
    obtain ⟨W, hW⟩ : ∃ W, W = wr := ⟨_, rfl⟩
    subst hW
    by_cases hlt : k < rows.length
    · obtain ⟨A1, c1, cg0, ho1⟩ := hN.row hlt
      have cg := (hbw.cell hgl).trans cg0
      clear cg0
      have HW : Hid (waysN (rows.take (k + 1)) = waysN (rows.take k) * rows[k].length) := Lib.hid (by rw [List.take_succ_eq_append_getElem hlt, waysN_snoc])
      have HC : Hid (cntL (rows.take (k + 1)) = wS (cntL (rows.take k)) rows[k]) := Lib.hid (by rw [List.take_succ_eq_append_getElem hlt, cntL_snoc])
      have HB := Lib.hid (cntL_bd (rows.take k))
      have HX := Lib.hid (fun (x : Int) (hx : x ∈ rows[k]) => HR.out rows[k] (List.getElem_mem hlt) x hx)
      have hT1 := HT.out (k + 1) (by omega)
      have hT0 := HT.out k (by omega)
      rw [HW.out] at hT1
      have hrow : Row w base 1 A1 rows[k].length (ints rows[k]) := Row.of_own ho1
      generalize rows[k] = row at *
      generalize cntL (rows.take k) = f at *
      generalize waysN (rows.take k) = n at *
      have M1 : MapF (W.alloc (.map #[] 0)) W.heap.size 0 (k * 864000000 + 864000000) (fun _ => 0) := MapF.made W _
      have hzl := hM.lt
      have hMa := hM.alloc (.map #[] 0)
      have hb2 : Below w.heap.size w (W.alloc (.map #[] 0)) := (by repeat (first | exact hbw | refine Below.alloc ?_ (by first | omega | (simp; omega)) _ | refine below_drewN' ?_ _ | refine Below.drew ?_))
      have e1 : (W.alloc (.map #[] 0)).heap.size = W.heap.size + 1 := by simp
      clear hM ho1
      go_wp2_with (first
        | (at_range; refine wpList_rangeF rfl _ rfl rfl hMa ?_; intro w0 left0 cnt0 hrg0 hcn0 hl0 hg0 hs0)
        | fail)
      go_frame
      rw [e1] at hrg0 hs0 ⊢
      have M2 := M1.kept hg0 (by simp)
      have hb3 : Below w.heap.size w w0 := hb2.grown hg0 (by simp; omega) (fun k hk => by cases hk)
      rw [← wS_start hl0 row] at M2
      clear M1 hMa hb2 hg0 hl0 e1 cg
      go_loopw [7] (fun _ wq => ∃ (left : Int → Bool) (cnt : Nat), MapR wq b (W.heap.size + 1) n (k * 864000000) f left cnt ∧ cnt ≤ n ∧ MapF wq W.heap.size ((n - cnt) * row.length) (k * 864000000 + 864000000) (wS (mk_ f left) row) ∧ Below w.heap.size w wq) (fun _ wq => wq.rangeLeft b (W.heap.size + 1))
      case atStart => exact ⟨left0, cnt0, hrg0, hcn0, M2.mono (Nat.zero_le _) (Int.le_refl _), hb3⟩
      case round =>
        clear hrg0 hcn0 M2 hb3
        obtain ⟨left, cnt, hrg, hcn, hM, hbq⟩ := hrel
        go_wp2_with (first
          | (at_next; refine wpList_nextF rfl _ rfl rfl hrg ?_ ?_)
          | fail)
        · intro hl0
          have hM9 := hM.mono (m := n * row.length) (Nat.mul_le_mul_right _ (by omega)) (Int.le_refl _)
          rw [wS_end hl0, ← HC.out, ← HW.out] at hM9
          have eB : (k : Int) * 864000000 + 864000000 = ((k + 1 : Nat) : Int) * 864000000 := by omega
          rw [eB] at hM9
          clear hM hrg
          go_wp2_with fail
          go_roundw
          case rel => exact ⟨k + 1, W.heap.size, by omega, by go_num, rfl, hM9, hbq, hz⟩
          case measure => simp [intOf]; omega
        · intro x w1 cnt1 hx hfx hx0 hxB hlx hrg1 hlt1 hg1 hs1 hen
          have hM1 := hM.kept hg1 (fun e => by injection e with e; omega)
          have hb1 : Below w.heap.size w w1 := hbq.grown hg1 hbq.size (fun k hk => by injection hk with hk; omega)
          have HE := Lib.hid (pj_end f left row hlx)
          rw [← pj_zero f left row x] at hM1
          have hR1 := hrg1
          clear hrg1 hM
          go_wp2_with fail
          go_loopw [29] (fun j wv => ∃ (j' : Nat), j' ≤ row.length ∧ j = .int .i64 j' ∧ MapR wv b (W.heap.size + 1) n (k * 864000000) f (fun y => left y && !decide (y = x)) cnt1 ∧ MapF wv W.heap.size ((n - cnt) * row.length + j') (k * 864000000 + 864000000) (pj f left row x j') ∧ Below w.heap.size w wv) (fun j _ => row.length - (intOf j).toNat)
          case atStart => exact ⟨0, Nat.zero_le _, rfl, hR1, hM1, hb1⟩
          case round =>
            clear hR1 hM1 hb1
            obtain ⟨j, hj, rfl, hR1, hM1, hb1⟩ := hrel
            by_cases hjl : j < row.length
            · obtain ⟨bb, off, rfl, _, hbs, cj⟩ := (hrow.below hb1).int_at hjl
              have hxr := HX.out row[j] (List.getElem_mem hjl)
              have HS := Lib.hid (pj_step f left row x hjl)
              generalize row[j] = y at *
              have hkx : I64 (x + y) := i64_sm (by omega) (by omega)
              have wk : IntKind.i64.wrap (x + y) = x + y := IntWalk.i64_in _ (by omega)
              obtain ⟨wv', iv⟩ := pj_wrap (x := x) HB.out hlx row j (x + y) hT1 hT0
              have hqn : (n - cnt) * row.length + j < 200000000 := by
                have := Nat.mul_le_mul_right row.length (show n - cnt ≤ n by omega)
                have hz9 : row.length ≤ 100000000 ∨ n = 0 := by
                  rcases Nat.eq_zero_or_pos n with h | h
                  · exact .inr h
                  · have := Nat.mul_le_mul_right row.length (show 1 ≤ n from h)
                    left; omega
                omega
              generalize pj f left row x j = G at *
              go_wp2_with (first
                | (at_lookup; refine wpList_lookF rfl _ _ rfl rfl hM1 (x + y) hkx rfl ?_; intro _)
                | (at_mapUpdate; refine wpList_putF rfl _ _ _ rfl rfl hM1 (by unfold maxLen; omega) (x + y) (G (x + y) + f x) hkx iv (by omega) rfl rfl ?_; intro w2 hM2 hg2)
                | fail)
              have hR2 := hR1.kept hg2 (fun e => by injection e with e; omega) (fun e => by injection e with e; omega)
              have hb2 : Below w.heap.size w w2 := hb1.grown hg2 hb1.size (fun k hk => by injection hk with hk; omega)
              go_roundw
              case rel => exact ⟨j + 1, by omega, by go_num, hR2, by rw [HS.out]; exact hM2, hb2⟩
              case measure => simp [intOf]; omega
            · have hjn : j = row.length := by omega
              subst hjn
              rw [HE.out] at hM1
              have hq2 : (n - cnt) * row.length + row.length ≤ (n - cnt1) * row.length := by
                have := Nat.mul_le_mul_right row.length (show n - cnt + 1 ≤ n - cnt1 by omega)
                rw [Nat.add_mul, Nat.one_mul] at this
                exact this
              have hM2 := hM1.mono hq2 (Int.le_refl _)
              clear hM1
              go_wp2_with fail
              go_roundw
              case rel => exact ⟨_, cnt1, hR1, by omega, hM2, hb1⟩
              case measure => rw [hR1.left_eq, hrg.left_eq]; exact hlt1
    · have hkn : k = rows.length := by omega
      subst hkn
      rw [List.take_length] at hM
      go_wp2_with fail
      go_ret
      have := HT.out rows.length (Nat.le_refl _)
      rw [List.take_length] at this
      exact ⟨b, _, rfl, hM, hbw, this, hbb⟩
end Go.Proofs.YtapjahbflhingaaGreatDoor
