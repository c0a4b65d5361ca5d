/- The walk of MissingOf. -/
import Derived.Test.YtlnencloodlnbaaDoorAgM
namespace Go.Proofs.YtlnencloodlnbaaDoor
open Go.RowKit Go.Sort

theorem ty_bools : SliceTy Tryd.prog 68 4 1 1 := .mk' Tryd.underlying68 (z := .bool false) (by kernel_rfl) rfl (by decide)
def bools (bs : List Bool) : List Value := bs.map Value.bool
def gl (a b : List Sm) (n : Nat) : List Bool := (List.range n).map fun j => !decide (hit a b j)
theorem gl_len (a b : List Sm) (n : Nat) : (gl a b n).length = n := by simp [gl]
theorem gl_succ (a b : List Sm) (n : Nat) : gl a b (n + 1) = gl a b n ++ [!decide (hit a b n)] := by simp [gl, List.range_succ]
theorem gl_at (a b : List Sm) (n j : Nat) (h : j < n) : (bools (gl a b n))[j]? = some (.bool (!decide (hit a b j))) := by simp [bools, gl, h]
theorem bools_app (x y : List Bool) : bools (x ++ y) = bools x ++ bools y := by simp [bools]

set_option maxHeartbeats 2000000 in
theorem missingOf_any (A B : Option Addr) (c d lo lo' : Nat) (a b : List Sm) (w : World) (hr : Row w lo 1 A a.length (strs a)) (hr' : Row w lo' 1 B b.length (strs b)) (hl : a.length ≤ 200000) (hl' : b.length ≤ 200000) :
    Calls Tryd.prog 14 #[.slice A a.length c, .slice B b.length d] w fun e w' => ∃ A' c', e = .returned (.tuple #[.slice A' (msL a b).length c', .bool (msB a b)]) ∧ Row w' w.heap.size 2 A' (msL a b).length (prs (msL a b)) ∧ Below w.heap.size w w' := by
  go_enter Tryd.func14, Tryd.ntmps14
  go_wp2_with fail
  go_loopw [6, 7, 16] (fun o n i wr => ∃ (k : Nat) (A' : Option Addr) (c' : Nat), k ≤ a.length ∧ i = .int .i64 k ∧ n = .int .i64 (nx a b k) ∧ o = .slice A' k c' ∧ wr.ownsRow w.heap.size 4 1 (.slice A' k c') k (bools (gl a b k)) ∧ Below w.heap.size w wr) (fun _ _ i _ => a.length - (intOf i).toNat)
  case atStart => exact ⟨0, none, 0, Nat.zero_le _, rfl, rfl, rfl, World.ownsRow_nil _ _ _ _, Below.refl _ _⟩
  case round =>
    obtain ⟨k, A', c', hk, rfl, rfl, rfl, hown, hbw⟩ := hrel
    have zw := hbw.size
    have hnl := nx_le a b k
    by_cases hlt : k < a.length
    · obtain ⟨p, off, hA, _, hbs, c0⟩ := (hr.below hbw).str_at hlt
      have HH := Lib.hid (nx_hit (a := a) (b := b) (i := k))
      have HNH := Lib.hid (nx_not (a := a) (b := b) (i := k))
      have HG := Lib.hid (gl_succ a b k)
      subst hA
      by_cases hn : nx a b k < b.length
      · obtain ⟨p', off', hB, _, hbs', d0⟩ := (hr'.below hbw).str_at hn
        have HHI : Hid (hit a b k ↔ b[nx a b k] = a[k]) := Lib.hid (by unfold hit; rw [sm_at b _ hn, sm_at a _ hlt]; simp [hn])
        subst hB
        by_cases he : b[nx a b k] = a[k]
        · have hh := HHI.out.2 he
          have HN := Lib.hid (HH.out hh)
          have HG2 : Hid (gl a b (k + 1) = gl a b k ++ [false]) := Lib.hid (by rw [HG.out, decide_eq_true hh]; rfl)
          rw [he] at d0
          clear he hh HH HNH HHI HG
          generalize a[k] = x at *
          generalize gl a b k = xs at *
          generalize nx a b k = m at *
          have hown' := hown
          go_wp2_with (at_builtin; go_must (refine wpList_app (lo := w.heap.size) (base := w.heap.size) (n := k) (xs := bools xs) _ _ rfl _ _ ty_bools rfl (by repeat (first | exact hown' | refine World.ownsRow.alloc ?_ _ | refine own_drewN ?_ _ | refine World.ownsRow.drew ?_)) rfl (by first | exact row_new' _ (by first | rfl | simp) (by first | omega | (simp; omega)) rfl | exact row_newN _ _ (by first | rfl | simp) (by first | omega | (simp; omega)) rfl | exact row_newD _ (by first | rfl | simp) (by first | omega | (simp; omega)) rfl) rfl rfl (by first | omega | decide) (by first | omega | decide) (by first | omega | (simp; omega)) ?_))
          intro A5 c5 w5 hown5 hg5 _
          go_wp2_with fail
          go_roundw
          case rel => exact ⟨k + 1, A5, c5, by omega, by go_num, by rw [HN.out]; go_num, rfl, by rw [HG2.out, bools_app]; exact hown5, below_app hown' (by repeat (first | exact hbw | refine Below.alloc ?_ (by first | omega | (simp; omega)) _ | refine below_drewN' ?_ _ | refine Below.drew ?_)) hg5 (Nat.le_refl _) (by simp; omega)⟩
          case measure => simp [intOf]; omega
        · have hh : ¬ hit a b k := fun h => he (HHI.out.1 h)
          have HN := Lib.hid (HNH.out hh)
          have HG2 : Hid (gl a b (k + 1) = gl a b k ++ [true]) := Lib.hid (by rw [HG.out, decide_eq_false hh]; rfl)
          have HEE := Lib.hid he
          clear he hh HH HNH HHI HG
          generalize hxa : a[k] = x at *
          generalize hyb : b[nx a b k] = y at *
          clear hxa hyb
          have tq : (y == x) = false := by simpa using HEE.out
          generalize gl a b k = xs at *
          generalize nx a b k = m at *
          have hown' := hown
          go_wp2_with (at_builtin; go_must (refine wpList_app (lo := w.heap.size) (base := w.heap.size) (n := k) (xs := bools xs) _ _ rfl _ _ ty_bools rfl (by repeat (first | exact hown' | refine World.ownsRow.alloc ?_ _ | refine own_drewN ?_ _ | refine World.ownsRow.drew ?_)) rfl (by first | exact row_new' _ (by first | rfl | simp) (by first | omega | (simp; omega)) rfl | exact row_newN _ _ (by first | rfl | simp) (by first | omega | (simp; omega)) rfl | exact row_newD _ (by first | rfl | simp) (by first | omega | (simp; omega)) rfl) rfl rfl (by first | omega | decide) (by first | omega | decide) (by first | omega | (simp; omega)) ?_))
          intro A5 c5 w5 hown5 hg5 _
          go_wp2_with fail
          go_roundw
          case rel => exact ⟨k + 1, A5, c5, by omega, by go_num, by rw [HN.out], rfl, by rw [HG2.out, bools_app]; exact hown5, below_app hown' (by repeat (first | exact hbw | refine Below.alloc ?_ (by first | omega | (simp; omega)) _ | refine below_drewN' ?_ _ | refine Below.drew ?_)) hg5 (Nat.le_refl _) (by simp; omega)⟩
          case measure => simp [intOf]; omega
      · have hh : ¬ hit a b k := fun h => hn h.1
        have HN := Lib.hid (HNH.out hh)
        have HG2 : Hid (gl a b (k + 1) = gl a b k ++ [true]) := Lib.hid (by rw [HG.out, decide_eq_false hh]; rfl)
        clear hh HH HNH HG
        generalize hxa : a[k] = x at *
        clear hxa
        generalize gl a b k = xs at *
        generalize nx a b k = m at *
        have hown' := hown
        go_wp2_with (at_builtin; go_must (refine wpList_app (lo := w.heap.size) (base := w.heap.size) (n := k) (xs := bools xs) _ _ rfl _ _ ty_bools rfl (by repeat (first | exact hown' | refine World.ownsRow.alloc ?_ _ | refine own_drewN ?_ _ | refine World.ownsRow.drew ?_)) rfl (by first | exact row_new' _ (by first | rfl | simp) (by first | omega | (simp; omega)) rfl | exact row_newN _ _ (by first | rfl | simp) (by first | omega | (simp; omega)) rfl | exact row_newD _ (by first | rfl | simp) (by first | omega | (simp; omega)) rfl) rfl rfl (by first | omega | decide) (by first | omega | decide) (by first | omega | (simp; omega)) ?_))
        intro A5 c5 w5 hown5 hg5 _
        go_wp2_with fail
        go_roundw
        case rel => exact ⟨k + 1, A5, c5, by omega, by go_num, by rw [HN.out], rfl, by rw [HG2.out, bools_app]; exact hown5, below_app hown' (by repeat (first | exact hbw | refine Below.alloc ?_ (by first | omega | (simp; omega)) _ | refine below_drewN' ?_ _ | refine Below.drew ?_)) hg5 (Nat.le_refl _) (by simp; omega)⟩
        case measure => simp [intOf]; omega
    · have hkk : k = a.length := by omega
      subst hkk
      by_cases h3 : nx a b a.length < b.length
      · have HM := Lib.hid (ms_no h3)
        go_wp2_with fail
        go_ret2
        rw [HM.out.1, HM.out.2]
        exact ⟨none, 0, ret2_is rfl rfl, Row.none_ _ _ _ _, hbw⟩
      · have HM := Lib.hid (ms_yes h3)
        have hrg := Row.of_own hown
        clear hown
        obtain ⟨w4, hw4⟩ : ∃ w4, w4 = wr := ⟨_, rfl⟩
        subst hw4
        go_wp2_with fail
        go_loopw [11, 47] (fun o i w6 => ∃ (k : Nat) (B' : Option Addr) (d' : Nat), k ≤ a.length ∧ i = .int .i64 k ∧ o = .slice B' (win a b k).length d' ∧ w6.ownsRow w4.heap.size 45 2 (.slice B' (win a b k).length d') (win a b k).length (prs (win a b k)) ∧ Below w4.heap.size w4 w6) (fun _ i _ => a.length - (intOf i).toNat)
        case atStart => exact ⟨0, none, 0, Nat.zero_le _, rfl, rfl, World.ownsRow_nil _ _ _ _, Below.refl _ _⟩
        case round =>
          obtain ⟨k, B', d', hk2, rfl, rfl, hown, hb6⟩ := hrel
          have z6 := hb6.size
          have hwl := (win_inv a b k).1
          by_cases hlt : k < a.length
          · obtain ⟨p, off, hA, _, hbs, hc⟩ := (hrg.below hb6).2 (by omega)
            have c0 := hc k _ (gl_at a b a.length k hlt)
            have HWH := Lib.hid (win_hit (a := a) (b := b) (i := k))
            have HWM := Lib.hid (win_more (a := a) (b := b) (i := k))
            have HWN := Lib.hid (win_new (a := a) (b := b) (i := k))
            have HWL := Lib.hid (win_last a b k)
            have HC1 : Hid (∀ j, k = j + 1 → wr.cell? ⟨p, off + j, none⟩ = some (.bool (!decide (hit a b j)))) := Lib.hid (fun j hj => hc j _ (gl_at a b a.length j (by omega)))
            subst hA
            clear hc
            by_cases hh : hit a b k
            · have HW := Lib.hid (HWH.out hh)
              rw [decide_eq_true hh, Bool.not_true] at c0
              clear HWH HWM HWN HWL HC1 hh
              go_wp2_with fail
              go_roundw
              case rel => exact ⟨k + 1, B', d', by omega, by go_num, by rw [HW.out], by rw [HW.out]; exact hown, hb6⟩
              case measure => simp [intOf]; omega
            · rw [decide_eq_false hh, Bool.not_false] at c0
              rcases Nat.eq_zero_or_pos k with hk0 | hk0
              · subst hk0
                rw [Nat.add_zero] at c0
                have HW : Hid (win a b (0 + 1) = win a b 0 ++ [(((0 : Nat) : Int), ((0 : Nat) : Int) + 1)]) := Lib.hid (HWN.out hh (by omega))
                clear HWH HWM HWN HWL HC1 hh
                generalize win a b 0 = xs at *
                go_wp2_with (at_builtin; go_must (refine wpList_app (lo := w4.heap.size) (base := w4.heap.size) (n := xs.length) (xs := prs xs) _ _ rfl _ _ ty_wins rfl (by repeat (first | exact hown | refine World.ownsRow.alloc ?_ _ | refine own_drewN ?_ _ | refine World.ownsRow.drew ?_)) rfl (by first | exact row_new' _ (by first | rfl | simp) (by first | omega | (simp; omega)) rfl | exact row_newN _ _ (by first | rfl | simp) (by first | omega | (simp; omega)) rfl | exact row_newD _ (by first | rfl | simp) (by first | omega | (simp; omega)) rfl) rfl rfl (by first | omega | decide) (by first | omega | decide) (by first | omega | (simp; omega)) ?_))
                intro A5 c5 w5 hown5 hg5 _
                go_wp2_with fail
                go_roundw
                case rel => exact ⟨0 + 1, A5, c5, by omega, by go_num, by rw [HW.out]; simp, by rw [HW.out]; simpa [prs] using hown5, below_app hown (by repeat (first | exact hb6 | refine Below.alloc ?_ (by first | omega | (simp; omega)) _ | refine below_drewN' ?_ _ | refine Below.drew ?_)) hg5 (Nat.le_refl _) (by simp; omega)⟩
                case measure => simp [intOf]; omega
              · obtain ⟨j, rfl⟩ : ∃ j, k = j + 1 := ⟨k - 1, by omega⟩
                have c1 := HC1.out j rfl
                clear HC1
                by_cases hj : hit a b j
                · rw [decide_eq_true hj, Bool.not_true] at c1
                  have HJ := Lib.hid hj
                  clear hj
                  have HW : Hid (win a b (j + 1 + 1) = win a b (j + 1) ++ [(((j + 1 : Nat) : Int), ((j + 1 : Nat) : Int) + 1)]) := Lib.hid (HWN.out hh (fun h => h.2 (by simpa using HJ.out)))
                  clear HWH HWM HWN HWL hh
                  generalize win a b (j + 1) = xs at *
                  go_wp2_with (at_builtin; go_must (refine wpList_app (lo := w4.heap.size) (base := w4.heap.size) (n := xs.length) (xs := prs xs) _ _ rfl _ _ ty_wins rfl (by repeat (first | exact hown | refine World.ownsRow.alloc ?_ _ | refine own_drewN ?_ _ | refine World.ownsRow.drew ?_)) rfl (by first | exact row_new' _ (by first | rfl | simp) (by first | omega | (simp; omega)) rfl | exact row_newN _ _ (by first | rfl | simp) (by first | omega | (simp; omega)) rfl | exact row_newD _ (by first | rfl | simp) (by first | omega | (simp; omega)) rfl) rfl rfl (by first | omega | decide) (by first | omega | decide) (by first | omega | (simp; omega)) ?_))
                  intro A5 c5 w5 hown5 hg5 _
                  go_wp2_with fail
                  go_roundw
                  case rel => exact ⟨j + 1 + 1, A5, c5, by omega, by go_num, by rw [HW.out]; simp, by rw [HW.out]; simpa [prs] using hown5, below_app hown (by repeat (first | exact hb6 | refine Below.alloc ?_ (by first | omega | (simp; omega)) _ | refine below_drewN' ?_ _ | refine Below.drew ?_)) hg5 (Nat.le_refl _) (by simp; omega)⟩
                  case measure => simp [intOf]; omega
                · rw [decide_eq_false hj, Bool.not_false] at c1
                  have HPQ := Lib.hid (HWL.out.2 ⟨by omega, by simpa using hj⟩)
                  have hz := HPQ.out.1
                  obtain ⟨q, hq⟩ : ∃ q, (win a b (j + 1)).length = q + 1 := ⟨(win a b (j + 1)).length - 1, by omega⟩
                  have HW : Hid (win a b (j + 1 + 1) = setLast (win a b (j + 1)) (((j + 1 : Nat) : Int) + 1)) := Lib.hid (HWM.out hh ⟨by omega, by simpa using hj⟩)
                  clear HWH HWM HWN HWL hh hj HPQ
                  generalize win a b (j + 1) = xs at *
                  obtain ⟨g, rfl, hgb, hgs, hcb, hfb⟩ := ownBlk hown hz
                  have hql : q < xs.length := by omega
                  have e1 := hcb _ _ (prs_at xs q hql).2
                  have e2 := hfb (q * 2 + 1)
                  have HSL : Hid (setLast xs (((j + 1 : Nat) : Int) + 1) = xs.set q (xs[q].1, ((j + 1 : Nat) : Int) + 1)) := Lib.hid (by unfold setLast; rw [show xs.length - 1 = q by omega, getD_pr xs q hql])
                  have HST := Lib.hid (own_prs_set hown q hql (((j + 1 : Nat) : Int) + 1))
                  have HLN : Hid ((xs.set q (xs[q].1, ((j + 1 : Nat) : Int) + 1)).length = q + 1) := Lib.hid (by simp; exact hq)
                  have hwl' : q + 1 ≤ j + 1 := by omega
                  rw [hq] at HST
                  rw [HSL.out] at HW
                  generalize xs.set q (xs[q].1, ((j + 1 : Nat) : Int) + 1) = ys at *
                  generalize xs[q] = zq at *
                  clear hcb hfb HSL hown hz
                  rw [hq]
                  clear hq hql
                  go_wp2_with fail
                  go_roundw
                  case rel => exact ⟨j + 1 + 1, some ⟨g, 0, none⟩, d', by omega, by go_num, by rw [HW.out, HLN.out], by rw [HW.out, HLN.out]; exact HST.out, Below.setCell hb6 (by simp; omega) _⟩
                  case measure => simp [intOf]; omega
          · have hkk : k = a.length := by omega
            subst hkk
            go_wp2_with fail
            go_ret2
            rw [HM.out.1, HM.out.2]
            exact ⟨B', d', ret2_is rfl rfl, (Row.of_own hown).weak hbw.size, below_up hbw hb6⟩
end Go.Proofs.YtlnencloodlnbaaDoor
