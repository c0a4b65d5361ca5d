/- The walk of Trace. -/
import Derived.Test.YtnlblgkoecnfmaaDoorGmH
namespace Go.Proofs.YtnlblgkoecnfmaaDoor
set_option linter.unusedVariables false
set_option linter.unusedSimpArgs false
open Go.RowKit Go.Maps

set_option maxHeartbeats 2000000 in
set_option maxRecDepth 100000 in
theorem trace_bad (lo : Nat) (A : Option Addr) (c : Nat) (rows : List (List UInt8)) (B : Option Addr) (d : Nat) (ps : List (Int × Int)) (w : World) (hr : Row w lo 1 A rows.length (strs rows)) (hl : rows.length ≤ 1000) (hb : ∀ r ∈ rows, r.length ≤ 1000) (hx : Row w lo 2 B ps.length (prs ps)) (hn : ps.length ≤ 1000000000) (hf : firstE [lvF rows, inFault ps] ≠ 0) :
    Calls Tryd.prog 13 #[.slice A rows.length c, .slice B ps.length d] w fun e w' => e = .returned (.tuple #[.slice none 0 0, .int .i64 (firstE [lvF rows, inFault ps])]) ∧ Below w.heap.size w w' := by
  have HC := Lib.hid (faultG_any lo A c rows B d ps w hr hl hb hx hn)
  have d0 : (firstE [lvF rows, inFault ps] != 0) = true := bne_iff_ne.2 hf
  generalize firstE [lvF rows, inFault ps] = ff at *
  clear hr hl hb hx hn hf
  go_enter Tryd.func13, Tryd.ntmps13
  go_wp2_with fail
  refine (HC.out).mono ?_
  rintro e w1 ⟨rfl, hb1⟩
  go_wp2_with fail
  go_ret2
  exact ⟨rfl, hb1⟩
set_option maxHeartbeats 2000000 in
set_option maxRecDepth 100000 in
theorem trace_ok (lo : Nat) (A : Option Addr) (c : Nat) (rows : List (List UInt8)) (W : Nat) (sx sy : Int) (B : Option Addr) (d : Nat) (ps : List (Int × Int)) (w : World) (hr : Row w lo 1 A rows.length (strs rows)) (hL : Lv rows W) (hc : cellF rows W sx sy = 115) (hx : Row w lo 2 B ps.length (prs ps)) (hlv : lvF rows = 0) (hin : inFault ps = 0) :
    Calls Tryd.prog 13 #[.slice A rows.length c, .slice B ps.length d] w fun e w' => ∃ A' c', e = .returned (.tuple #[.slice A' (playF rows W (gs0 sx sy) (unf ps)).length c', .int .i64 0]) ∧ w'.ownsRow w.heap.size 36 6 (.slice A' (playF rows W (gs0 sx sy) (unf ps)).length c') (playF rows W (gs0 sx sy) (unf ps)).length (gss ((playF rows W (gs0 sx sy) (unf ps)).map bodyG)) ∧ Below w.heap.size w w' := by
  obtain ⟨i1, i2, i3⟩ := inFault_ok hin
  have HP : Hid (∀ p ∈ ps, 0 ≤ p.2) := Lib.hid (fun p hp => by have := i2 p hp; omega)
  have HV : Hid (∀ p ∈ ps, 0 ≤ p.1 ∧ p.1 ≤ 255) := Lib.hid (fun p hp => by have := i2 p hp; omega)
  have H64 := Lib.hid (unf_64 hin)
  have H20 := Lib.hid (unf_20 hin)
  have HC := Lib.hid (faultG_any lo A c rows B d ps w hr (by have := hL.le; omega) (fun r hr => by have := hL.wide r hr; have := hL.W60; omega) hx (by omega))
  rw [hlv, hin] at HC
  have HL := Lib.hid hL
  have HCC := Lib.hid hc
  have HR := Lib.hid hr
  have HX := Lib.hid hx
  have HI : Hid (psum ps ≤ 1000000000 ∧ ps.length ≤ 1000000000) := Lib.hid ⟨by omega, by omega⟩
  clear hr hL hc hx hlv hin i1 i2 i3
  go_enter Tryd.func13, Tryd.ntmps13
  go_wp2_with fail
  refine (HC.out).mono ?_
  rintro e w1 ⟨rfl, hb2⟩
  clear HC
  go_wp2_with fail
  refine (newGame_any lo A c rows W _ (HR.out.below hb2) HL.out).mono ?_
  rintro e w3 ⟨p, sx', sy', mb, rfl, hg3, hc3, hb3⟩
  obtain ⟨rfl, rfl⟩ := HL.out.start_one HCC.out hc3
  have hb4 := below_up hb2 (hb3.mono (Nat.le_refl _))
  have HG3 := Lib.hid hg3
  clear hc3 hb2 hb3 hg3
  go_wp2_with fail
  refine (spread_any B d lo ps _ (HX.out.below hb4) HI.out.2 HP.out HV.out HI.out.1).mono ?_
  rintro e w5 ⟨A5, c5, rfl, hown5, hb5⟩
  have HG5 := Lib.hid (HG3.out.below hb5)
  have hb6 := below_up hb4 (hb5.mono (Nat.le_refl _))
  clear HG3 hb4 hb5
  go_wp2_with fail
  refine (states_any p 0 A c rows W sx sy mb w5 (row_down (HR.out.below hb6)) HL.out HG5.out HCC.out A5 c5 (unf ps) (row_down (Row.of_own hown5)) H64.out (by have := H20.out; omega)).mono ?_
  rintro e w7 ⟨A7, c7, rfl, hown7, hb7⟩
  have hb8 := below_up hb6 (hb7.mono (Nat.le_refl _))
  clear HG5 hb6 hb7 hown5
  have HOK : Hid (∀ t ∈ playF rows W (gs0 sx sy) (unf ps), GOk rows W t) := Lib.hid (playF_ok HL.out (start_ok HL.out HCC.out) rfl)
  have HLL : Hid ((playF rows W (gs0 sx sy) (unf ps)).length ≤ 200000) := Lib.hid (Nat.le_trans playF_len H20.out)
  obtain ⟨L, hD⟩ : ∃ L, L = playF rows W (gs0 sx sy) (unf ps) := ⟨_, rfl⟩
  rw [← hD] at HOK HLL hown7 ⊢
  have HD := Lib.hid hD
  have HO7 := Lib.hid hown7
  have hll : L.length ≤ 200000 := HLL.out
  obtain ⟨B0, hB0⟩ : ∃ B0, B0 = w7.heap.size := ⟨_, rfl⟩
  have hB1 : B0 ≤ w7.heap.size := Nat.le_of_eq hB0
  have HBW : Hid (w.heap.size ≤ B0) := Lib.hid (by rw [hB0]; exact hb8.size)
  have hb70 : Below B0 w7 w7 := Below.refl _ _
  have HB0 := Lib.hid hB0
  clear hD hown7 hB0
  go_wp2_with fail
  go_loopw [7, 22] (fun v i wr => ∃ (k : Nat) (A' : Option Addr) (c' : Nat), k ≤ L.length ∧ i = .int .i64 k ∧ v = .slice A' k c' ∧ wr.ownsRow B0 36 6 (.slice A' k c') k (gss ((L.take k).map bodyG)) ∧ Below B0 w7 wr) (fun _ i _ => L.length - (intOf i).toNat)
  case atStart => exact ⟨0, none, 0, Nat.zero_le _, rfl, rfl, World.ownsRow_nil _ _ _ _, hb70⟩
  case round =>
    obtain ⟨k, A', c', hk, rfl, rfl, hown, hbw⟩ := hrel
    clear hb70
    have hsz := hbw.size
    by_cases hkn : k < L.length
    · obtain ⟨gb, hA, hgb, hgb2, hcell, _⟩ := ownBlk (own_keep HO7.out (by rw [← HB0.out]; exact hbw)) (by omega)
      have HGS : Hid (gss ((L.take k).map bodyG) ++ gss [bodyG L[k]] = gss ((L.take (k + 1)).map bodyG)) := Lib.hid (by rw [List.take_succ_eq_append_getElem hkn, List.map_append, gss_app]; rfl)
      have HQM : Hid (L[k].mask < 1024) := Lib.hid (HOK.out _ (List.getElem_mem _)).m
      subst hA
      obtain ⟨l0, l1, l2, l3, l4, l5⟩ := gss_at L k hkn
      have c0 := hcell _ _ l0
      have c1 := hcell _ _ l1
      have c2 := hcell _ _ l2
      have c3 := hcell _ _ l3
      have c4 := hcell _ _ l4
      have c5 := hcell _ _ l5
      clear l0 l1 l2 l3 l4 l5 hcell hgb hgb2
      generalize L[k] = q at *
      go_wp2_with fail
      refine (body_any q HQM.out _).mono ?_
      rintro e w9 ⟨rfl, hb9⟩
      obtain ⟨pm, hpm⟩ : ∃ pm, pm = popN q.mask := ⟨_, rfl⟩
      have hone : gss [bodyG q] = [.int .i64 q.x, .int .i64 q.y, .int .i64 q.rise, .bool q.held, .int .i64 (pm : Nat), .int .i64 q.fin] := by
        rw [gss_one]; unfold gsC bodyG; dsimp only; rw [← hpm]
      rw [hone] at HGS
      rw [gsV_pm hpm]
      have hown9 := own_keep (hown.alloc (.cells #[.int .i64 q.x, .int .i64 q.y, .int .i64 q.rise, .bool q.held, .int .i64 q.mask, .int .i64 q.fin] 74)) hb9
      have hz9 : B0 ≤ w9.heap.size := by have := hb9.size; simp at this; omega
      have hb10 : Below B0 w7 w9 := (hbw.alloc (by omega) _).trans (hb9.mono (by simp; omega))
      clear hpm hone hown hbw hb9 c0 c1 c2 c3 c4 c5
      generalize gss ((L.take k).map bodyG) = GG at *
      go_wp2_with (at_builtin; go_must (refine wpList_app (lo := B0) (base := B0) (n := k) (xs := GG) _ _ rfl _ _ ty_bodies rfl (by repeat (first | exact hown9 | refine World.ownsRow.alloc ?_ _ | refine own_drewN ?_ _ | refine World.ownsRow.drew ?_)) rfl (by first | exact row_new' _ (by first | rfl | simp) (by first | omega | (simp; omega)) rfl | exact row_newN _ _ (by first | rfl | simp) (by first | omega | (simp; omega)) rfl | exact row_newD _ (by first | rfl | simp) (by first | omega | (simp; omega)) rfl) rfl rfl (by first | omega | decide) (by first | omega | decide) (by first | omega | (simp; omega)) ?_))
      intro A11 c11 w11 hown11 hg11 _
      rw [HGS.out] at hown11
      have hb11 := below_app hown9 (hb10.alloc (by omega) _) hg11 (Nat.le_refl _) (by simp; omega)
      clear hown9 hb10 hg11
      have HW11 := Lib.hid hown11
      clear hown11
      go_wp2_with fail
      go_roundw
      case rel => exact ⟨k + 1, A11, c11, by omega, by go_num, rfl, HW11.out, hb11⟩
      case measure => simp [intOf]; omega
    · have hke : k = L.length := by omega
      subst hke
      have HOW := Lib.hid (own_down hown HBW.out)
      rw [List.take_length] at HOW
      have hbf : Below w.heap.size w wr := hb8.trans (hbw.mono HBW.out)
      clear hown
      go_wp2_with fail
      go_ret2
      rw [← HD.out]
      exact ⟨A', c', rfl, HOW.out, hbf⟩
end Go.Proofs.YtnlblgkoecnfmaaDoor
