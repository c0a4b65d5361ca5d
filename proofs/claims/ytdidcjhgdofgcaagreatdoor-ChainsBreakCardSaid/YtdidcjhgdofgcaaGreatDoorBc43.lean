/- Texts of this seat, laid together: AgM. -/
import Derived.Test.YtdidcjhgdofgcaaGreatDoorBc13
import Derived.Test.YtdidcjhgdofgcaaGreatDoorBc41
import Derived.Test.YtdidcjhgdofgcaaGreatDoorBc42
/- The walk of Missing. -/
namespace Go.Proofs.YtdidcjhgdofgcaaGreatDoor
set_option linter.unusedVariables false
set_option linter.unusedSimpArgs false
open Go.RowKit Go.Sort

theorem ty_wins : SliceTy Tryz.prog 56 60 2 16 := .mk' Tryz.underlying56 (z := .agg #[.int .i64 0, .int .i64 0]) (by kernel_rfl) rfl (by decide)
def msF (a b : List Sm) : Int := if 200000 < a.length ∨ 200000 < b.length then 2 else if sF a = 0 then sF b else sF a
theorem sF_cases (l : List Sm) : sF l = 0 ∨ sF l = 3 := by unfold sF; split <;> simp
def msR (a b : List Sm) : List (Int × Int) := if msF a b = 0 then msL a b else []
def msC (a b : List Sm) : Bool := if msF a b = 0 then msB a b else false
theorem msR_ok {a b : List Sm} (h : msF a b = 0) : msR a b = msL a b ∧ msC a b = msB a b := by simp [msR, msC, h]
theorem msR_bad {a b : List Sm} (h : ¬ msF a b = 0) : msR a b = [] ∧ msC a b = false := by simp [msR, msC, h]

def MissPost (w : World) (a b : List Sm) (e : Ending) (w' : World) : Prop := ∃ A' c', e = .returned (.tuple #[.slice A' (msR a b).length c', .bool (msC a b), .int .i64 (msF a b)]) ∧ Row w' w.heap.size 2 A' (msR a b).length (prs (msR a b)) ∧ Below w.heap.size w w'

set_option maxHeartbeats 2000000 in
theorem missing_any (A B : Option Addr) (c d lo lo' : Nat) (a b : List Sm) (w : World) (hr : Row w lo 1 A a.length (strs a)) (hr' : Row w lo' 1 B b.length (strs b)) (hl : a.length ≤ 1000000000) (hl' : b.length ≤ 1000000000) (hs : ∀ s ∈ a, s.length ≤ 9223372036854775807) (hs' : ∀ s ∈ b, s.length ≤ 9223372036854775807) :
    Calls Tryz.prog 27 #[.slice A a.length c, .slice B b.length d] w (MissPost w a b) := by
  by_cases hla : 200000 < a.length ∨ 200000 < b.length
  · have HF : Hid (msF a b = 2) := Lib.hid (by rw [msF, if_pos hla])
    have HR := Lib.hid (msR_bad (a := a) (b := b) (by rw [HF.out]; omega))
    clear hs hs'
    by_cases h1 : 200000 < a.length
    · go_enter Tryz.func27, Tryz.ntmps27
      go_wp2_with fail
      go_ret3
      unfold MissPost
      rw [HF.out, HR.out.1, HR.out.2]
      exact ⟨none, 0, ret3_is rfl rfl rfl, Row.none_ _ _ _ _, Below.refl _ _⟩
    · have h2 : 200000 < b.length := by omega
      go_enter Tryz.func27, Tryz.ntmps27
      go_wp2_with fail
      go_ret3
      unfold MissPost
      rw [HF.out, HR.out.1, HR.out.2]
      exact ⟨none, 0, ret3_is rfl rfl rfl, Row.none_ _ _ _ _, Below.refl _ _⟩
  · have h1 : ¬ 200000 < a.length := by omega
    have h2 : ¬ 200000 < b.length := by omega
    have HF : Hid (msF a b = if sF a = 0 then sF b else sF a) := Lib.hid (by rw [msF, if_neg hla])
    have HS := Lib.hid hs
    have HS' := Lib.hid hs'
    clear hs hs' hla
    go_enter Tryz.func27, Tryz.ntmps27
    go_wp2_with fail
    refine (sumsFaultP_any _ _ lo a _ hr hl HS.out).mono ?_
    rintro e w1 ⟨rfl, hb1⟩
    go_wp2_with fail
    refine (sumsFaultP_any _ _ lo' b _ (hr'.below hb1) hl' HS'.out).mono ?_
    rintro e w2 ⟨rfl, hb2⟩
    have hx2 := below_up hb1 hb2
    have z2 := hx2.size
    clear hb1 hb2
    have HFE : Hid (firstE [sF a, sF b] = msF a b) := Lib.hid (by rw [HF.out, firstE_two])
    go_wp2_with fail
    refine (first_any _ _ w.heap.size [sF a, sF b] _ (by first | exact row_new' _ (by first | rfl | simp) (by first | omega | (simp; omega)) rfl | exact row_newN _ _ (by first | rfl | simp) (by first | omega | (simp; omega)) rfl | exact row_newD _ (by first | rfl | simp) (by first | omega | (simp; omega)) rfl) (by simp)).mono ?_
    rintro e w3 ⟨rfl, rfl⟩
    rw [HFE.out]
    have hx3 : Below w.heap.size w (w2.alloc (.cells #[.int .i64 (sF a), .int .i64 (sF b)] 29)) := (by repeat (first | exact hx2 | refine Below.alloc ?_ (by first | omega | (simp; omega)) _ | refine below_drewN' ?_ _ | refine Below.drew ?_))
    generalize w2.alloc (.cells #[.int .i64 (sF a), .int .i64 (sF b)] 29) = w3 at *
    by_cases h0 : msF a b = 0
    · have h0' : (msF a b != 0) = false := by simpa using h0
      have H0 := Lib.hid h0
      clear h0 HF HFE
      have HR := Lib.hid (msR_ok H0.out)
      go_wp2_with fail
      clear h0'
      go_loopw [8, 9, 32] (fun o n i wr => ∃ (k : Nat) (A' : Option Addr) (c' : Nat), k ≤ a.length ∧ i = .int .i64 k ∧ n = .int .i64 (nx a b k) ∧ o = .slice A' (win a b k).length c' ∧ wr.ownsRow w.heap.size 60 2 (.slice A' (win a b k).length c') (win a b k).length (prs (win a b k)) ∧ Below w.heap.size w wr) (fun _ _ i _ => a.length - (intOf i).toNat)
      case atStart => exact ⟨0, none, 0, Nat.zero_le _, rfl, rfl, rfl, World.ownsRow_nil _ _ _ _, hx3⟩
      case round =>
        obtain ⟨k, A', c', hk, rfl, rfl, rfl, hown, hbw⟩ := hrel
        have zw := hbw.size
        have hnl := nx_le a b k
        have hwl := (win_inv a b k).1
        by_cases hlt : k < a.length
        · obtain ⟨p, off, hA, _, hbs, c0⟩ := (hr.below hbw).str_at hlt
          have HH := Lib.hid (nx_hit (a := a) (b := b) (i := k))
          have HNH := Lib.hid (nx_not (a := a) (b := b) (i := k))
          have HWH := Lib.hid (win_hit (a := a) (b := b) (i := k))
          have HWM := Lib.hid (win_more (a := a) (b := b) (i := k))
          have HWN := Lib.hid (win_new (a := a) (b := b) (i := k))
          have HWL := Lib.hid (win_last a b k)
          subst hA
          have fin : ∀ (hn : ¬ hit a b k), True := fun _ => trivial
          by_cases hn : nx a b k < b.length
          · obtain ⟨p', off', hB, _, hbs', d0⟩ := (hr'.below hbw).str_at hn
            have HHI : Hid (hit a b k ↔ b[nx a b k] = a[k]) := Lib.hid (by unfold hit; rw [sm_at b _ hn, sm_at a _ hlt]; simp [hn])
            subst hB
            by_cases he : b[nx a b k] = a[k]
            · have hh := HHI.out.2 he
              have HN := Lib.hid (HH.out hh)
              have HW := Lib.hid (HWH.out hh)
              rw [he] at d0
              clear he hh HH HNH HWH HWM HWN HWL HHI fin
              generalize a[k] = x at *
              generalize win a b k = xs at *
              generalize nx a b k = m at *
              go_wp2_with fail
              go_roundw
              case rel => exact ⟨k + 1, A', c', by omega, by go_num, by rw [HN.out]; go_num, by rw [HW.out], by rw [HW.out]; exact hown, hbw⟩
              case measure => simp [intOf]; omega
            · have hh : ¬ hit a b k := fun h => he (HHI.out.1 h)
              have HEE := Lib.hid he
              clear he HHI
              have HN := Lib.hid (HNH.out hh)
              have HWM' := Lib.hid (HWM.out hh)
              have HWN' := Lib.hid (HWN.out hh)
              clear HH HNH HWH HWM HWN fin hh
              generalize hxa : a[k] = x at *
              generalize hyb : b[nx a b k] = y at *
              clear hxa hyb
              have tq : (y == x) = false := by simpa using HEE.out
              generalize hxs : win a b k = xs at *
              generalize nx a b k = m at *
              rcases Nat.eq_zero_or_pos xs.length with hz | hz
              · have HW : Hid (win a b (k + 1) = xs ++ [((k : Int), (k : Int) + 1)]) := Lib.hid (HWN'.out (fun h => by have := HWL.out.2 h; omega))
                have hx0 : xs = [] := List.eq_nil_of_length_eq_zero hz
                subst hx0
                clear HWM' HWN' HWL hz hxs
                have hown' : wr.ownsRow w.heap.size 60 2 (.slice A' 0 c') 0 (prs []) := hown
                clear hown
                rw [List.length_nil]
                go_wp2_with (at_builtin; go_must (refine wpList_app (lo := w.heap.size) (base := w.heap.size) (n := 0) (xs := prs []) _ _ rfl _ _ ty_wins rfl (by repeat (first | exact hown' | refine World.ownsRow.alloc ?_ _ | refine own_drewN ?_ _ | refine World.ownsRow.drew ?_)) rfl (by first | exact row_new' _ (by first | rfl | simp) (by first | omega | (simp; omega)) rfl | exact row_newN _ _ (by first | rfl | simp) (by first | omega | (simp; omega)) rfl | exact row_newD _ (by first | rfl | simp) (by first | omega | (simp; omega)) rfl) rfl rfl (by first | omega | decide) (by first | omega | decide) (by first | omega | (simp; omega)) ?_))
                intro A5 c5 w5 hown5 hg5 _
                go_wp2_with fail
                go_roundw
                case rel => exact ⟨k + 1, A5, c5, by omega, by go_num, by rw [HN.out], by rw [HW.out]; rfl, by rw [HW.out]; simpa [prs] using hown5, below_app hown' (by repeat (first | exact hbw | refine Below.alloc ?_ (by first | omega | (simp; omega)) _ | refine below_drewN' ?_ _ | refine Below.drew ?_)) hg5 (Nat.le_refl _) (by simp; omega)⟩
                case measure => simp [intOf]; omega
              · obtain ⟨q, hq⟩ : ∃ q, xs.length = q + 1 := ⟨xs.length - 1, by omega⟩
                obtain ⟨g, rfl, hgb, hgs, hcb, hfb⟩ := ownBlk hown hz
                have hql : q < xs.length := by omega
                have e1 := hcb _ _ (prs_at xs q hql).2
                have e2 := hfb (q * 2 + 1)
                have HGD : Hid (xs.getD (xs.length - 1) (0, 0) = xs[q]) := Lib.hid (by rw [show xs.length - 1 = q by omega]; exact getD_pr xs q hql)
                rw [HGD.out] at HWL
                have HQ := Lib.hid hq
                have HSL : Hid (setLast xs ((k : Int) + 1) = xs.set q (xs[q].1, (k : Int) + 1)) := Lib.hid (by unfold setLast; rw [HGD.out, show xs.length - 1 = q by omega])
                have HST := Lib.hid (own_prs_set hown q hql ((k : Int) + 1))
                have HPOS := Lib.hid hz
                clear hcb hfb HGD hz hxs
                by_cases hto : xs[q].2 = k
                · have HW : Hid (win a b (k + 1) = xs.set q (xs[q].1, (k : Int) + 1)) := Lib.hid (by rw [HWM'.out (HWL.out.1 ⟨HPOS.out, hto⟩), HSL.out])
                  have HLN : Hid ((xs.set q (xs[q].1, (k : Int) + 1)).length = q + 1) := Lib.hid (by simp; exact HQ.out)
                  rw [hto] at e1
                  have hwl' : q + 1 ≤ k := by omega
                  rw [hq] at HST
                  generalize xs.set q (xs[q].1, (k : Int) + 1) = ys at *
                  clear HWM' HWN' HWL HSL hto hown
                  rw [hq]
                  clear hq hql
                  go_wp2_with fail
                  go_roundw
                  case rel => exact ⟨k + 1, some ⟨g, 0, none⟩, c', by omega, by go_num, by rw [HN.out], by rw [HW.out, HLN.out], by rw [HW.out, HLN.out]; exact HST.out, Below.setCell hbw (by simp; omega) _⟩
                  case measure => simp [intOf]; omega
                · have HW : Hid (win a b (k + 1) = xs ++ [((k : Int), (k : Int) + 1)]) := Lib.hid (HWN'.out (fun h => hto (HWL.out.2 h).2))
                  have tt : (xs[q].2 == (k : Int)) = false := by simpa using hto
                  generalize xs[q] = z at *
                  clear HWM' HWN' HWL HSL hto HST
                  have hwl' : q + 1 ≤ k := by omega
                  have hown' : wr.ownsRow w.heap.size 60 2 (.slice (some ⟨g, 0, none⟩) (q + 1) c') (q + 1) (prs xs) := by rw [← hq]; exact hown
                  rw [hq]
                  clear hq hql hwl hown
                  go_wp2_with (at_builtin; go_must (refine wpList_app (lo := w.heap.size) (base := w.heap.size) (n := q + 1) (xs := prs xs) _ _ rfl _ _ ty_wins rfl (by repeat (first | exact hown' | refine World.ownsRow.alloc ?_ _ | refine own_drewN ?_ _ | refine World.ownsRow.drew ?_)) rfl (by first | exact row_new' _ (by first | rfl | simp) (by first | omega | (simp; omega)) rfl | exact row_newN _ _ (by first | rfl | simp) (by first | omega | (simp; omega)) rfl | exact row_newD _ (by first | rfl | simp) (by first | omega | (simp; omega)) rfl) rfl rfl (by first | omega | decide) (by first | omega | decide) (by first | omega | (simp; omega)) ?_))
                  intro A5 c5 w5 hown5 hg5 _
                  go_wp2_with fail
                  go_roundw
                  case rel => exact ⟨k + 1, A5, c5, by omega, by go_num, by rw [HN.out], by rw [HW.out, List.length_append, HQ.out]; rfl, by rw [HW.out, List.length_append, HQ.out]; simpa [prs] using hown5, below_app hown' (by repeat (first | exact hbw | refine Below.alloc ?_ (by first | omega | (simp; omega)) _ | refine below_drewN' ?_ _ | refine Below.drew ?_)) hg5 (Nat.le_refl _) (by simp; omega)⟩
                  case measure => simp [intOf]; omega
          · have hh : ¬ hit a b k := fun h => hn h.1
            have HN := Lib.hid (HNH.out hh)
            have HWM' := Lib.hid (HWM.out hh)
            have HWN' := Lib.hid (HWN.out hh)
            clear HH HNH HWH HWM HWN fin hh
            generalize hxa : a[k] = x at *
            clear hxa
            generalize hxs : win a b k = xs at *
            generalize nx a b k = m at *
            rcases Nat.eq_zero_or_pos xs.length with hz | hz
            · have HW : Hid (win a b (k + 1) = xs ++ [((k : Int), (k : Int) + 1)]) := Lib.hid (HWN'.out (fun h => by have := HWL.out.2 h; omega))
              have hx0 : xs = [] := List.eq_nil_of_length_eq_zero hz
              subst hx0
              clear HWM' HWN' HWL hz hxs
              have hown' : wr.ownsRow w.heap.size 60 2 (.slice A' 0 c') 0 (prs []) := hown
              clear hown
              rw [List.length_nil]
              go_wp2_with (at_builtin; go_must (refine wpList_app (lo := w.heap.size) (base := w.heap.size) (n := 0) (xs := prs []) _ _ rfl _ _ ty_wins rfl (by repeat (first | exact hown' | refine World.ownsRow.alloc ?_ _ | refine own_drewN ?_ _ | refine World.ownsRow.drew ?_)) rfl (by first | exact row_new' _ (by first | rfl | simp) (by first | omega | (simp; omega)) rfl | exact row_newN _ _ (by first | rfl | simp) (by first | omega | (simp; omega)) rfl | exact row_newD _ (by first | rfl | simp) (by first | omega | (simp; omega)) rfl) rfl rfl (by first | omega | decide) (by first | omega | decide) (by first | omega | (simp; omega)) ?_))
              intro A5 c5 w5 hown5 hg5 _
              go_wp2_with fail
              go_roundw
              case rel => exact ⟨k + 1, A5, c5, by omega, by go_num, by rw [HN.out], by rw [HW.out]; rfl, by rw [HW.out]; simpa [prs] using hown5, below_app hown' (by repeat (first | exact hbw | refine Below.alloc ?_ (by first | omega | (simp; omega)) _ | refine below_drewN' ?_ _ | refine Below.drew ?_)) hg5 (Nat.le_refl _) (by simp; omega)⟩
              case measure => simp [intOf]; omega
            · obtain ⟨q, hq⟩ : ∃ q, xs.length = q + 1 := ⟨xs.length - 1, by omega⟩
              obtain ⟨g, rfl, hgb, hgs, hcb, hfb⟩ := ownBlk hown hz
              have hql : q < xs.length := by omega
              have e1 := hcb _ _ (prs_at xs q hql).2
              have e2 := hfb (q * 2 + 1)
              have HGD : Hid (xs.getD (xs.length - 1) (0, 0) = xs[q]) := Lib.hid (by rw [show xs.length - 1 = q by omega]; exact getD_pr xs q hql)
              rw [HGD.out] at HWL
              have HQ := Lib.hid hq
              have HSL : Hid (setLast xs ((k : Int) + 1) = xs.set q (xs[q].1, (k : Int) + 1)) := Lib.hid (by unfold setLast; rw [HGD.out, show xs.length - 1 = q by omega])
              have HST := Lib.hid (own_prs_set hown q hql ((k : Int) + 1))
              have HPOS := Lib.hid hz
              clear hcb hfb HGD hz hxs
              by_cases hto : xs[q].2 = k
              · have HW : Hid (win a b (k + 1) = xs.set q (xs[q].1, (k : Int) + 1)) := Lib.hid (by rw [HWM'.out (HWL.out.1 ⟨HPOS.out, hto⟩), HSL.out])
                have HLN : Hid ((xs.set q (xs[q].1, (k : Int) + 1)).length = q + 1) := Lib.hid (by simp; exact HQ.out)
                rw [hto] at e1
                have hwl' : q + 1 ≤ k := by omega
                rw [hq] at HST
                generalize xs.set q (xs[q].1, (k : Int) + 1) = ys at *
                clear HWM' HWN' HWL HSL hto hown
                rw [hq]
                clear hq hql
                go_wp2_with fail
                go_roundw
                case rel => exact ⟨k + 1, some ⟨g, 0, none⟩, c', by omega, by go_num, by rw [HN.out], by rw [HW.out, HLN.out], by rw [HW.out, HLN.out]; exact HST.out, Below.setCell hbw (by simp; omega) _⟩
                case measure => simp [intOf]; omega
              · have HW : Hid (win a b (k + 1) = xs ++ [((k : Int), (k : Int) + 1)]) := Lib.hid (HWN'.out (fun h => hto (HWL.out.2 h).2))
                have tt : (xs[q].2 == (k : Int)) = false := by simpa using hto
                generalize xs[q] = z at *
                clear HWM' HWN' HWL HSL hto HST
                have hwl' : q + 1 ≤ k := by omega
                have hown' : wr.ownsRow w.heap.size 60 2 (.slice (some ⟨g, 0, none⟩) (q + 1) c') (q + 1) (prs xs) := by rw [← hq]; exact hown
                rw [hq]
                clear hq hql hwl hown
                go_wp2_with (at_builtin; go_must (refine wpList_app (lo := w.heap.size) (base := w.heap.size) (n := q + 1) (xs := prs xs) _ _ rfl _ _ ty_wins rfl (by repeat (first | exact hown' | refine World.ownsRow.alloc ?_ _ | refine own_drewN ?_ _ | refine World.ownsRow.drew ?_)) rfl (by first | exact row_new' _ (by first | rfl | simp) (by first | omega | (simp; omega)) rfl | exact row_newN _ _ (by first | rfl | simp) (by first | omega | (simp; omega)) rfl | exact row_newD _ (by first | rfl | simp) (by first | omega | (simp; omega)) rfl) rfl rfl (by first | omega | decide) (by first | omega | decide) (by first | omega | (simp; omega)) ?_))
                intro A5 c5 w5 hown5 hg5 _
                go_wp2_with fail
                go_roundw
                case rel => exact ⟨k + 1, A5, c5, by omega, by go_num, by rw [HN.out], by rw [HW.out, List.length_append, HQ.out]; rfl, by rw [HW.out, List.length_append, HQ.out]; simpa [prs] using hown5, below_app hown' (by repeat (first | exact hbw | refine Below.alloc ?_ (by first | omega | (simp; omega)) _ | refine below_drewN' ?_ _ | refine Below.drew ?_)) hg5 (Nat.le_refl _) (by simp; omega)⟩
                case measure => simp [intOf]; omega
        · have hkk : k = a.length := by omega
          subst hkk
          by_cases h3 : nx a b a.length < b.length
          · have HM := Lib.hid (ms_no h3)
            go_wp2_with fail
            go_ret3
            unfold MissPost
            rw [HR.out.1, HR.out.2, HM.out.1, HM.out.2]
            exact ⟨none, 0, ret3_is rfl rfl (by rw [H0.out]; rfl), Row.none_ _ _ _ _, hbw⟩
          · have HM := Lib.hid (ms_yes h3)
            go_wp2_with fail
            go_ret3
            unfold MissPost
            rw [HR.out.1, HR.out.2, HM.out.1, HM.out.2]
            exact ⟨A', c', ret3_is rfl rfl (by rw [H0.out]; rfl), Row.of_own hown, hbw⟩
    · have h0' : (msF a b != 0) = true := by simpa using h0
      have HR := Lib.hid (msR_bad h0)
      clear h0
      go_wp2_with fail
      go_ret3
      unfold MissPost
      rw [HR.out.1, HR.out.2]
      exact ⟨none, 0, ret3_is rfl rfl rfl, Row.none_ _ _ _ _, hx3⟩
end Go.Proofs.YtdidcjhgdofgcaaGreatDoor
