/- The walk of the reference's trace. -/
import Derived.Test.YtnlblgkoecnfmaaDoorGmF
namespace Go.Proofs.YtnlblgkoecnfmaaDoor
set_option linter.unusedVariables false
set_option linter.unusedSimpArgs false
open Go.RowKit Go.Maps

theorem ty_bodies : SliceTy Tryd.prog 39 36 6 48 := .mk' Tryd.underlying39 (z := .agg #[.int .i64 0, .int .i64 0, .int .i64 0, .bool false, .int .i64 0, .int .i64 0]) (by kernel_rfl) rfl (by decide)
theorem GmR.farG {w1 w2 : World} {p : Nat} {A : Option Addr} {c : Nat} {rows : List (List UInt8)} {W : Nat} {s : GS} {mb n : Nat} {base m size : Nat} {e : TypeId} {v : Value} {xs : List Value} {o : Obj} (h : GmR w1 p A c rows W s mb n) (hown : w1.ownsRow base e size v m xs) (hg : (w1.alloc o).grownBy w2 v.ownBlock) (hp : p < base) (hq : mb < base) : GmR w2 p A c rows W s mb n :=
  ⟨Blk.farG hown (h.blk.alloc o) hg hp, (h.map.alloc o).kept hg (fun e => by have := (hown.lt mb e.symm).1; omega), h.ne⟩
set_option maxHeartbeats 2000000 in
set_option maxRecDepth 100000 in
theorem traceOf_any (lo : Nat) (A : Option Addr) (c : Nat) (rows : List (List UInt8)) (W : Nat) (sx sy : Int) (w : World) (hr : Row w lo 1 A rows.length (strs rows)) (hL : Lv rows W) (hc : cellF rows W sx sy = 115)
    (B : Option Addr) (d : Nat) (xs : List Int) (hx : Row w lo 1 B xs.length (ints xs)) (hv : ∀ x ∈ xs, 0 ≤ x ∧ x < 64) (hl : xs.length ≤ 1000000) :
    Calls Tryd.prog 17 #[.slice A rows.length c, .slice B xs.length d] w fun e w' => ∃ A' c', e = .returned (.slice A' (playF rows W (gs0 sx sy) xs).length c') ∧ w'.ownsRow w.heap.size 36 6 (.slice A' (playF rows W (gs0 sx sy) xs).length c') (playF rows W (gs0 sx sy) xs).length (gss ((playF rows W (gs0 sx sy) xs).map bodyG)) ∧ Below w.heap.size w w' := by
  have HR := Lib.hid hr
  have HL := Lib.hid hL
  have HX := Lib.hid hx
  have HV := Lib.hid hv
  have hs0 := start_ok hL hc
  have HPL : Hid ((playF rows W (gs0 sx sy) xs).length ≤ xs.length) := Lib.hid playF_len
  clear hx hv
  go_enter Tryd.func17, Tryd.ntmps17
  go_wp2_with fail
  refine (begun_any lo A c rows W _ hr hL).mono ?_
  rintro e w2 ⟨p, sx', sy', mb, rfl, hg2, hp, hmb, hc', hb2⟩
  obtain ⟨rfl, rfl⟩ := hL.start_one hc hc'
  have hg3 : GmR w2 p A c rows W (gs0 sx sy) mb (popN (gs0 sx sy).mask) := by rw [show popN (gs0 sx sy).mask = 0 from popN_0]; exact hg2
  obtain ⟨B0, hB0⟩ : ∃ B0, B0 = w2.heap.size := ⟨_, rfl⟩
  have HB0 : Hid (w.heap.size ≤ B0 ∧ p < B0 ∧ mb < B0 ∧ w.heap.size ≤ p ∧ w.heap.size ≤ mb) := Lib.hid ⟨by rw [hB0]; exact hb2.size, by rw [hB0]; exact hg2.blk.lt, by rw [hB0]; exact hg2.map.lt, hp, hmb⟩
  have hlt2 : B0 ≤ w2.heap.size := Nat.le_of_eq hB0
  clear hr hL hc hc' hp hmb hg2 hB0
  go_wp2_with fail
  go_loopw [6, 13] (fun v i wr => ∃ (k : Nat) (A' : Option Addr) (c' : Nat) (us : List GS) (s : GS), k ≤ xs.length ∧ us.length ≤ k ∧ i = .int .i64 k ∧ v = .slice A' us.length c' ∧ wr.ownsRow B0 36 6 (.slice A' us.length c') us.length (gss (us.map bodyG)) ∧ GmR wr p A c rows W s mb (popN s.mask) ∧ Hid (GOk rows W s) ∧ Hid ((s.fin = 0 → us ++ playF rows W s (xs.drop k) = playF rows W (gs0 sx sy) xs) ∧ (s.fin ≠ 0 → us = playF rows W (gs0 sx sy) xs)) ∧ B0 ≤ wr.heap.size ∧ Below w.heap.size w wr) (fun _ i _ => xs.length - (intOf i).toNat)
  case atStart => exact ⟨0, none, 0, [], gs0 sx sy, Nat.zero_le _, Nat.le_refl _, rfl, rfl, World.ownsRow_nil _ _ _ _, hg3, Lib.hid hs0, Lib.hid ⟨fun _ => rfl, fun h => absurd rfl h⟩, hlt2, hb2⟩
  case round =>
    obtain ⟨k, A', c', us, s, hk, hus, rfl, rfl, hown, hS, HOK, HP, hlt, hbw⟩ := hrel
    clear hg3 hb2 hlt2 hs0
    have z6 := hS.blk.cell 6
    simp only [List.getElem?_toArray, List.getElem?_cons_zero, List.getElem?_cons_succ] at z6
    by_cases hkn : k < xs.length
    · obtain ⟨bb, off, rfl, _, hbs, c0⟩ := (HX.out.below hbw).int_at hkn
      obtain ⟨v0, v1⟩ := HV.out xs[k] (List.getElem_mem _)
      by_cases hf : s.fin = 0
      · have d0 : (s.fin != 0) = false := by rw [hf]; rfl
        have HF := Lib.hid hf
        have HSS := Lib.hid hS
        clear hf hS
        go_wp2_with fail
        refine (frame_any p lo A c rows W s mb w wr HR.out HL.out HSS.out hbw ⟨HB0.out.2.2.2.1, HB0.out.2.2.2.2⟩ HOK.out HF.out xs[k] v0 v1).mono ?_
        rintro e w5 ⟨rfl, hg5, hb5, ho5⟩
        have HOK' := Lib.hid (HOK.out.step (h := xs[k]) HL.out HF.out)
        have HP' : Hid (((stepF rows W xs[k] s).fin = 0 → (us ++ [stepF rows W xs[k] s]) ++ playF rows W (stepF rows W xs[k] s) (xs.drop (k + 1)) = playF rows W (gs0 sx sy) xs) ∧ ((stepF rows W xs[k] s).fin ≠ 0 → us ++ [stepF rows W xs[k] s] = playF rows W (gs0 sx sy) xs)) := Lib.hid ⟨fun hf => playF_more hkn (HP.out.1 HF.out) hf, fun hf => playF_all hkn (HP.out.1 HF.out) hf⟩
        have hown5 := own_others hown ho5 HB0.out.2.1 HB0.out.2.2.1
        have hlt5 : B0 ≤ w5.heap.size := Nat.le_trans hlt ho5.1
        clear HSS z6 hown HOK HF HP hlt c0 v0 v1 hbs ho5 d0
        clear hbw
        generalize stepF rows W xs[k] s = t at *
        have HG5 := Lib.hid hg5
        obtain ⟨y1, y2, y3, y4, y5, y6⟩ : _ ∧ _ ∧ _ ∧ _ ∧ _ ∧ _ := ⟨hg5.blk.cell 1, hg5.blk.cell 2, hg5.blk.cell 3, hg5.blk.cell 4, hg5.blk.cell 5, hg5.blk.cell 6⟩
        simp only [List.getElem?_toArray, List.getElem?_cons_zero, List.getElem?_cons_succ] at y1 y2 y3 y4 y5 y6
        clear hg5
        go_wp2_with (at_builtin; go_must (refine wpList_app (lo := B0) (base := B0) (n := us.length) (xs := gss (us.map bodyG)) _ _ rfl _ _ ty_bodies rfl (by repeat (first | exact hown5 | refine World.ownsRow.alloc ?_ _ | refine own_drewN ?_ _ | refine World.ownsRow.drew ?_)) rfl (by first | exact row_new' _ (by first | rfl | simp) (by first | omega | (simp; omega)) rfl | exact row_newN _ _ (by first | rfl | simp) (by first | omega | (simp; omega)) rfl | exact row_newD _ (by first | rfl | simp) (by first | omega | (simp; omega)) rfl) rfl rfl (by first | omega | decide) (by first | omega | decide) (by first | omega | (simp; omega)) ?_))
        intro A7 c7 w7 hown7 hg7 _
        have hS7 : GmR w7 p A c rows W t mb (popN t.mask) := HG5.out.farG (o := .cells #[.int .i64 t.x, .int .i64 t.y, .int .i64 t.rise, .bool t.held, .int .i64 (popN t.mask), .int .i64 t.fin] 36) hown5 hg7 HB0.out.2.1 HB0.out.2.2.1
        have hb7 := below_app hown5 (hb5.alloc (by have := HB0.out; omega) _) hg7 (by have := HB0.out; omega) (by have := HB0.out; simp; omega)
        have hlt7 : B0 ≤ w7.heap.size := Nat.le_trans hlt5 (by have := hg7.size; simp at this; omega)
        have hgs : gss (us.map bodyG) ++ [Value.int IntKind.i64 t.x, Value.int IntKind.i64 t.y, Value.int IntKind.i64 t.rise, Value.bool t.held, Value.int IntKind.i64 (popN t.mask), Value.int IntKind.i64 t.fin] = gss ((us ++ [t]).map bodyG) := by
          rw [List.map_append, gss_app]
          simp only [List.map_cons, List.map_nil, gss_one, gsC, bodyG]
        rw [hgs] at hown7
        have hul : us.length + 1 = (us ++ [t]).length := by simp
        clear hgs hg7 hown5 hlt5 y1 y2 y3 y4 y5 y6 hb5 HG5
        rw [hul] at hown7
        have hul' : (us ++ [t]).length ≤ k + 1 := by simp; omega
        rw [hul]
        clear hul HPL
        generalize us ++ [t] = us' at *
        have HS7 := Lib.hid hS7
        clear hS7
        go_wp2_with fail
        go_roundw
        case rel => exact ⟨k + 1, A7, c7, us', t, by omega, hul', by go_num, rfl, hown7, HS7.out, HOK', HP', hlt7, hb7⟩
        case measure => simp [intOf]; omega
      · have d0 : (s.fin != 0) = true := bne_iff_ne.2 hf
        have HE := Lib.hid (HP.out.2 hf)
        have HOW := Lib.hid (own_down hown (show w.heap.size ≤ B0 by have := HB0.out; omega))
        clear hown hf HP hS
        go_wp2_with fail
        go_ret
        rw [← HE.out]
        exact ⟨A', c', rfl, HOW.out, hbw⟩
    · have hke : k = xs.length := by omega
      subst hke
      have HE : Hid (us = playF rows W (gs0 sx sy) xs) := Lib.hid (by
        by_cases hf : s.fin = 0
        · exact playF_end (HP.out.1 hf)
        · exact HP.out.2 hf)
      have HOW := Lib.hid (own_down hown (show w.heap.size ≤ B0 by have := HB0.out; omega))
      clear hown hS HPL z6 HP
      go_wp2_with fail
      go_ret
      rw [← HE.out]
      exact ⟨A', c', rfl, HOW.out, hbw⟩
end Go.Proofs.YtnlblgkoecnfmaaDoor
