/- The walk of states. -/
import Derived.Test.YtnlblgkoecnfmaaDoorGmB
namespace Go.Proofs.YtnlblgkoecnfmaaDoor
set_option linter.unusedVariables false
set_option linter.unusedSimpArgs false
open Go.RowKit Go.Maps

theorem ty_gss : SliceTy Tryd.prog 68 74 6 48 := .mk' Tryd.underlying68 (z := .agg #[.int .i64 0, .int .i64 0, .int .i64 0, .bool false, .int .i64 0, .int .i64 0]) (by kernel_rfl) rfl (by decide)
theorem gs_new {w : World} {t : TypeId} {s : GS} : Row (w.alloc (.cells #[.int .i64 s.x, .int .i64 s.y, .int .i64 s.rise, .bool s.held, .int .i64 s.mask, .int .i64 s.fin] t)) w.heap.size 6 (some ⟨w.heap.size, 0, none⟩) 1 (gss [s]) := by
  rw [gss_one]; exact row_new' _ rfl (by omega) rfl
theorem own_down {w : World} {base base' : Nat} {e : TypeId} {size : Nat} {v : Value} {n : Nat} {xs : List Value} (h : w.ownsRow base e size v n xs) (hb : base' ≤ base) : w.ownsRow base' e size v n xs :=
  ⟨h.1, h.2.imp id fun ⟨g, cap, cur, h1, h2, h3⟩ => ⟨g, cap, cur, h1, Nat.le_trans hb h2, h3⟩⟩
theorem Blk.farG {w1 w2 : World} {g base n size : Nat} {t e : TypeId} {cs : Array Value} {v : Value} {xs : List Value} {o : Obj} (hown : w1.ownsRow base e size v n xs) (h : Blk (w1.alloc o) g t cs) (hg : (w1.alloc o).grownBy w2 v.ownBlock) (hb : g < base) : Blk w2 g t cs :=
  (hg.block g h.lt (fun e => by have := (hown.lt g e.symm).1; omega)).trans h
set_option maxHeartbeats 2000000 in
set_option maxRecDepth 100000 in
theorem states_any (p lo : Nat) (A : Option Addr) (c : Nat) (rows : List (List UInt8)) (W : Nat) (sx sy : Int) (mb : Nat) (w : World) (hr : Row w lo 1 A rows.length (strs rows)) (hL : Lv rows W) (hg : GmI w p A c rows W sx sy mb) (hc : cellF rows W sx sy = 115)
    (B : Option Addr) (d : Nat) (xs : List Int) (hx : Row w lo 1 B xs.length (u8s xs)) (hv : ∀ x ∈ xs, 0 ≤ x ∧ x < 64) (hl : xs.length ≤ 1000000) :
    Calls Tryd.prog 32 #[.pointer (some ⟨p, 0, none⟩), .slice B xs.length d] w fun e w' => ∃ A' c', e = .returned (.slice A' (playF rows W (gs0 sx sy) xs).length c') ∧ w'.ownsRow w.heap.size 74 6 (.slice A' (playF rows W (gs0 sx sy) xs).length c') (playF rows W (gs0 sx sy) xs).length (gss (playF rows W (gs0 sx sy) xs)) ∧ Below w.heap.size w w' := by
  have HG := Lib.hid hg
  have HR := Lib.hid hr
  have HL := Lib.hid hL
  have HX := Lib.hid hx
  have HV := Lib.hid hv
  have hs0 := start_ok hL hc
  have HPL : Hid ((playF rows W (gs0 sx sy) xs).length ≤ xs.length) := Lib.hid playF_len
  clear hr hL hx hv hc
  go_enter Tryd.func32, Tryd.ntmps32
  go_wp2_with fail
  go_at_call 34
  refine (begin_any p A c rows W sx sy mb _ hg).mono ?_
  rintro e w1 ⟨rfl, hb1⟩
  clear hg
  go_wp2_with fail
  generalize h21 : w1.alloc (.cells #[.int .i64 sx, .int .i64 sy, .int .i64 0, .bool false, .int .i64 0, .int .i64 0] 74) = w2
  have hb2 : Below w.heap.size w w2 := by rw [← h21]; exact hb1.alloc hb1.size _
  have hS2 : Blk w2 w1.heap.size 74 #[.int .i64 sx, .int .i64 sy, .int .i64 0, .bool false, .int .i64 0, .int .i64 0] := by rw [← h21]; exact Blk.new _ _ _
  have hle : w.heap.size ≤ w1.heap.size := hb1.size
  have hlt2 : w1.heap.size + 1 ≤ w2.heap.size := hS2.lt
  clear h21 hb1
  generalize w1.heap.size = S at *
  obtain ⟨B0, hB0⟩ : ∃ B0, B0 = S + 1 := ⟨_, rfl⟩
  have HB0 : Hid (w.heap.size ≤ S ∧ S < B0 ∧ B0 = S + 1) := Lib.hid ⟨hle, by omega, hB0⟩
  rw [← hB0] at hlt2
  clear hle hB0
  go_loopw [6, 13] (fun v i wr => ∃ (k : Nat) (A' : Option Addr) (c' : Nat) (us : List GS) (s : GS), k ≤ xs.length ∧ us.length ≤ k ∧ i = .int .i64 k ∧ v = .slice A' us.length c' ∧ wr.ownsRow B0 74 6 (.slice A' us.length c') us.length (gss us) ∧ Blk wr S 74 #[.int .i64 s.x, .int .i64 s.y, .int .i64 s.rise, .bool s.held, .int .i64 s.mask, .int .i64 s.fin] ∧ Hid (GOk rows W s) ∧ Hid (s.fin = 0) ∧ Hid (us ++ playF rows W s (xs.drop k) = playF rows W (gs0 sx sy) xs) ∧ B0 ≤ wr.heap.size ∧ Below w.heap.size w wr) (fun _ i _ => xs.length - (intOf i).toNat)
  case atStart => exact ⟨0, none, 0, [], gs0 sx sy, Nat.zero_le _, Nat.le_refl _, rfl, rfl, World.ownsRow_nil _ _ _ _, hS2, Lib.hid hs0, Lib.hid rfl, Lib.hid rfl, hlt2, hb2⟩
  case round =>
    obtain ⟨k, A', c', us, s, hk, hus, rfl, rfl, hown, hS, HOK, HF, HP, hlt, hbw⟩ := hrel
    clear hS2 hb2 hlt2 hs0
    by_cases hkn : k < xs.length
    · obtain ⟨bb, off, rfl, _, hbs, c0⟩ := (HX.out.below hbw).u8_at hkn
      obtain ⟨v0, v1⟩ := HV.out xs[k] (List.getElem_mem _)
      obtain ⟨y0, y1, y2, y3, y4, y5⟩ : _ ∧ _ ∧ _ ∧ _ ∧ _ ∧ _ := ⟨hS.cell 0, hS.cell 1, hS.cell 2, hS.cell 3, hS.cell 4, hS.cell 5⟩
      simp only [List.getElem?_toArray, List.getElem?_cons_zero, List.getElem?_cons_succ] at y0 y1 y2 y3 y4 y5
      have HFR := Lib.hid hS
      clear hS
      go_wp2_with fail
      refine (step_any p lo A c rows W sx sy mb _ (HR.out.below hbw) HL.out (HG.out.below hbw) s HOK.out HF.out xs[k] v0 v1).mono ?_
      rintro e w5 ⟨rfl, hb5⟩
      have HOK' := Lib.hid (HOK.out.step (h := xs[k]) HL.out HF.out)
      have HPA : Hid ((stepF rows W xs[k] s).fin ≠ 0 → us ++ [stepF rows W xs[k] s] = playF rows W (gs0 sx sy) xs) := Lib.hid (fun hf => playF_all hkn HP.out hf)
      have HPM : Hid ((stepF rows W xs[k] s).fin = 0 → (us ++ [stepF rows W xs[k] s]) ++ playF rows W (stepF rows W xs[k] s) (xs.drop (k + 1)) = playF rows W (gs0 sx sy) xs) := Lib.hid (fun hf => playF_more hkn HP.out hf)
      have hS5 := HFR.out.below hb5
      have hown5 := own_keep hown hb5
      have hb5' := below_up hbw (hb5.mono (Nat.le_refl _))
      have hlt5 : B0 ≤ w5.heap.size := Nat.le_trans hlt hb5.size
      clear y0 y1 y2 y3 y4 y5 HFR hown HOK HF HP hb5 hlt c0 v0 v1 hbs
      clear hbw
      generalize stepF rows W xs[k] s = t at *
      unfold gsV
      have hi : (Tryd.prog.info? 74).map (·.size) = some 6 := by kernel_rfl
      have hone := one6 t.x t.y t.rise t.mask t.fin t.held
      go_wp2_with (first | (refine wpList_storeRow rfl 74 _ _ rfl S #[.int .i64 t.x, .int .i64 t.y, .int .i64 t.rise, .bool t.held, .int .i64 t.mask, .int .i64 t.fin] rfl rfl 74 _ hS5 hi rfl hone ?_; intro w6 hS6 hg6; have hown6 := own_grown hown5 hg6 HB0.out.2.1; have hlt6 : B0 ≤ w6.heap.size := Nat.le_trans hlt5 hg6.size; have y0 := hS6.cell 0; have y1 := hS6.cell 1; have y2 := hS6.cell 2; have y3 := hS6.cell 3; have y4 := hS6.cell 4; have y5 := hS6.cell 5; simp only [List.getElem?_toArray, List.getElem?_cons_zero, List.getElem?_cons_succ] at y0 y1 y2 y3 y4 y5) | (at_builtin; go_must (refine wpList_app (lo := B0) (base := B0) (n := us.length) (xs := gss us) _ _ rfl _ _ ty_gss rfl (by repeat (first | exact hown6 | refine World.ownsRow.alloc ?_ _ | refine own_drewN ?_ _ | refine World.ownsRow.drew ?_)) rfl (by first | exact row_new' _ (by first | rfl | simp) (by first | omega | (simp; omega)) rfl | exact row_newN _ _ (by first | rfl | simp) (by first | omega | (simp; omega)) rfl | exact row_newD _ (by first | rfl | simp) (by first | omega | (simp; omega)) rfl) rfl rfl (by first | omega | decide) (by first | omega | decide) (by first | omega | (simp; omega)) ?_)))
      intro A7 c7 w7 hown7 hg7 _
      have hS7 := Blk.farG hown6 (hS6.alloc _) hg7 HB0.out.2.1
      have hb6 : Below w.heap.size w w6 := hb5'.grown hg6 (Nat.le_trans HB0.out.1 (by have := HB0.out.2.1; omega)) (fun k hk => by injection hk with hk; rw [← hk]; exact HB0.out.1)
      have hb7 := below_app hown6 (hb6.alloc (by have := HB0.out; omega) _) hg7 (by have := HB0.out; omega) (by have := HB0.out; simp; omega)
      have hlt7 : B0 ≤ w7.heap.size := Nat.le_trans hlt6 (by have := hg7.size; simp at this; omega)
      have hgs : gss us ++ [Value.int IntKind.i64 t.x, Value.int IntKind.i64 t.y, Value.int IntKind.i64 t.rise, Value.bool t.held, Value.int IntKind.i64 t.mask, Value.int IntKind.i64 t.fin] = gss (us ++ [t]) := by rw [gss_app, gss_one]; rfl
      rw [hgs] at hown7
      have hul : us.length + 1 = (us ++ [t]).length := by simp
      clear hgs hg7 hg6 hown6 hS6 hb6 hb5' hown5 hS5 hlt5 hlt6 y0 y1 y2 y3 y4 y5 hi hone
      rw [hul] at hown7
      have HUL := Lib.hid hul
      have hul' : (us ++ [t]).length ≤ k + 1 := by simp; omega
      rw [hul]
      clear hul
      have y5 := hS7.cell 5
      simp only [List.getElem?_toArray, List.getElem?_cons_zero, List.getElem?_cons_succ] at y5
      by_cases hf : t.fin = 0
      · have d0 : (t.fin != 0) = false := by rw [hf]; rfl
        have HPM' := Lib.hid (HPM.out hf)
        have HF := Lib.hid hf
        clear HPA HPM HPL hf
        generalize us ++ [t] = us' at *
        have HS7 := Lib.hid hS7
        clear hS7
        go_wp2_with fail
        go_roundw
        case rel => exact ⟨k + 1, A7, c7, us', t, by omega, hul', by go_num, rfl, hown7, HS7.out, HOK', HF, HPM', hlt7, hb7⟩
        case measure => simp [intOf]; omega
      · have d0 : (t.fin != 0) = true := bne_iff_ne.2 hf
        have HPA' := Lib.hid (HPA.out hf)
        clear HPA HPM HPL hf hS7
        generalize us ++ [t] = us' at *
        have HOW := Lib.hid (own_down hown7 (show w.heap.size ≤ B0 by have := HB0.out; omega))
        clear hown7
        go_wp2_with fail
        go_ret
        rw [← HPA'.out]
        exact ⟨A7, c7, rfl, HOW.out, hb7⟩
    · have hke : k = xs.length := by omega
      subst hke
      have HE := Lib.hid (playF_end HP.out)
      have HOW := Lib.hid (own_down hown (show w.heap.size ≤ B0 by have := HB0.out; omega))
      clear hown hS HPL
      go_wp2_with fail
      go_ret
      rw [← HE.out]
      exact ⟨A', c', rfl, HOW.out, hbw⟩
end Go.Proofs.YtnlblgkoecnfmaaDoor
