/- Texts of this seat, laid together: LawHistoriesChecked. -/
import Derived.Deep.DeepCutAuto
import Derived.Test.YtagghmfhfboejaaGreatDoorBu11
import Derived.Test.YtagghmfhfboejaaGreatDoorBu31
import Derived.Test.YtagghmfhfboejaaGreatDoorBu30
import Derived.Test.YtagghmfhfboejaaGreatDoorBu19
import Derived.Test.YtagghmfhfboejaaGreatDoorBu33
/- For every list of numbers the law HistoriesChecked returns true and leaves the list as it was: its walk. -/
namespace Go.Proofs.YtagghmfhfboejaaGreatDoor
set_option linter.unusedVariables false
set_option linter.unusedSimpArgs false
open Go.RowKit Go.Sort

theorem leastFrom0_ok (SA TA : Option Addr) (c d lo : Nat) (segs : List (List UInt8)) (atts : List Att) (w : World) (hh : Hist w lo SA TA segs atts) (hok : HistOk segs atts) :
    Calls Tryz.prog 19 #[.agg #[.slice SA segs.length c, .slice TA atts.length d], .int .i64 0] w fun e w' => e = .returned (.int .i64 (sumV segs atts)) ∧ Below w.heap.size w w' :=
  leastFrom_ok SA TA c d lo 0 segs atts w hh hok (Nat.zero_le _)
set_option maxHeartbeats 8000000 in
set_option maxRecDepth 100000 in
theorem checked_walk (A : Option Addr) (n c : Nat) (w : World) (hn : n ≤ 9223372036854775807)
    (hz : ∀ k, k < n → ∃ b off z, A = some ⟨b, off, none⟩ ∧ b < w.heap.size ∧ w.cell? ⟨b, off + k, none⟩ = some (.int .i64 z) ∧ I64 z) :
    LawCall 3 A n c w := by
  have hstr := str_make (c := c) hn hz
  clear hz
  have hb0 : Below w.heap.size w (w.alloc (.cells #[.slice A n c, .int .i64 0] 25)) := (Below.refl _ _).alloc (Nat.le_refl _) _
  have hz0 : (w.alloc (.cells #[.slice A n c, .int .i64 0] 25)).heap.size = w.heap.size + 1 := by simp
  go_enter Tryz.func3, Tryz.ntmps3
  go_wp2_with fail
  generalize w.alloc (.cells #[.slice A n c, .int .i64 0] 25) = w0 at *
  have HZ0 := Lib.hid hz0
  clear hz0
  refine (history_any w.heap.size 0 _ hstr (by omega)).mono ?_
  rintro e w1 ⟨SA, TA, c', d', segs, atts, rfl, hh, hc, n1, n4, hm, hl, hsl, hs1, hg1⟩
  have hz9 : HistSz segs atts c' := ⟨hc, by omega, by omega, fun i h => by have := hl i h; omega, fun s hs => by have := hsl s hs; omega⟩
  have HL9 := Lib.hid hl
  clear hl hsl
  go_wp2_with fail
  refine (pick_any w.heap.size _ _ _ _ [1, 1, 2, 3, 9] _ (hs1.alloc _) (by omega) (row_new _ _ _ _ _ _ (Nat.le_refl _) rfl) hs1.lt (by simp) (by simp)).mono ?_
  rintro e w2 ⟨no, rfl, -, hs2, hg2⟩
  have hgl : w.heap.size < w0.heap.size := by have := HZ0.out; omega
  have hh := (hh.alloc (.cells #[.int .i64 1, .int .i64 1, .int .i64 2, .int .i64 3, .int .i64 9] 3)).stream hg2 hgl
  have hgr := grown_trans' (grown_alloc hg1 (.cells #[.int .i64 1, .int .i64 1, .int .i64 2, .int .i64 3, .int .i64 9] 3)) hg2
  have hx : Below w.heap.size w w2 := hb0.grown hgr (by omega) (fun k hk => by injection hk with hk; omega)
  clear hs1 hg1 hs2 hg2 hgr hb0 hstr
  go_wp2_with fail
  have hk : Blk (w2.alloc (.cells #[.slice SA segs.length c', .slice TA atts.length d'] 29)) w2.heap.size 29 #[.slice SA segs.length c', .slice TA atts.length d'] := Blk.new _ _ _
  have hh := hh.alloc (.cells #[.slice SA segs.length c', .slice TA atts.length d'] 29)
  have hx := below_up hx ((Below.refl _ _).alloc (Nat.le_refl _) (.cells #[.slice SA segs.length c', .slice TA atts.length d'] 29))
  generalize w2.alloc (.cells #[.slice SA segs.length c', .slice TA atts.length d'] 29) = W at *
  generalize w2.heap.size = bx at *
  obtain ⟨q0, q1⟩ := hk.two_
  have hz := hk.lt
  refine (historyFault_any SA TA c' d' _ segs atts _ hh hz9.hc hz9.h9 hz9.h8 hz9.h7 hz9.h6).mono ?_
  rintro e w1 ⟨rfl, hb⟩
  clear q0 q1 hz
  have hh := hh.below hb
  have hk := hk.below hb
  have hx := below_up hx hb
  obtain ⟨q0, q1⟩ := hk.two_
  have hz := hk.lt
  clear hb
  go_wp2_with fail
  refine (checkHistory_any SA TA c' d' _ segs atts _ hh hz9.hc hz9.h9 hz9.h8 hz9.h7 hz9.h6).mono ?_
  rintro e w1 ⟨rfl, hb⟩
  clear q0 q1 hz
  have hh := hh.below hb
  have hk := hk.below hb
  have hx := below_up hx hb
  obtain ⟨q0, q1⟩ := hk.two_
  have hz := hk.lt
  clear hb
  go_wp2_with fail
  by_cases hf : histF segs atts = 0
  · have HO := Lib.hid (histF_ok hf)
    rw [hf]
    clear hf
    go_wp2_with fail
    refine (Times_ok SA TA c' d' _ no segs atts _ hh hc HO.out).mono ?_
    rintro e w1 ⟨A1, c1, rfl, ho1, hb⟩
    clear q0 q1 hz
    have hh := hh.below hb
    have hk := hk.below hb
    have hx := below_up hx hb
    obtain ⟨q0, q1⟩ := hk.two_
    have hz := hk.lt
    clear hb
    have hT := Row.of_own ho1
    clear ho1
    go_wp2_with fail
    refine (Golds_ok SA TA c' d' _ segs atts _ hh hc HO.out).mono ?_
    rintro e w1 ⟨A2, c2, rfl, ho2, hb⟩
    clear q0 q1 hz
    have hh := hh.below hb
    have hk := hk.below hb
    have hx := below_up hx hb
    obtain ⟨q0, q1⟩ := hk.two_
    have hz := hk.lt
    have hT := hT.below hb
    clear hb
    have hG := Row.of_own ho2
    clear ho2
    go_wp2_with fail
    refine (sumOfBest_ok SA TA c' d' _ segs atts _ hh hc HO.out).mono ?_
    rintro e w1 ⟨rfl, hb⟩
    clear q0 q1 hz
    have hh := hh.below hb
    have hk := hk.below hb
    have hx := below_up hx hb
    obtain ⟨q0, q1⟩ := hk.two_
    have hz := hk.lt
    have hT := hT.below hb
    have hG := hG.below hb
    clear hb
    go_wp2_with fail
    refine (Best_ok SA TA c' d' _ segs atts _ hh hc HO.out).mono ?_
    rintro e w1 ⟨rfl, hb⟩
    clear q0 q1 hz
    have hh := hh.below hb
    have hk := hk.below hb
    have hx := below_up hx hb
    obtain ⟨q0, q1⟩ := hk.two_
    have hz := hk.lt
    have hT := hT.below hb
    have hG := hG.below hb
    clear hb
    go_wp2_with fail
    refine (Records_ok SA TA c' d' _ segs atts _ hh hc HO.out).mono ?_
    rintro e w1 ⟨A3, c3, rfl, ho3, hb⟩
    clear q0 q1 hz
    have hh := hh.below hb
    have hk := hk.below hb
    have hx := below_up hx hb
    obtain ⟨q0, q1⟩ := hk.two_
    have hz := hk.lt
    have hT := hT.below hb
    have hG := hG.below hb
    clear hb
    have hR := Row.of_own ho3
    clear ho3
    go_wp2_with fail
    refine (attemptAt_any SA TA c' d' _ no segs atts _ hh (by omega)).mono ?_
    rintro e w1 ⟨rfl, hb⟩
    clear q0 q1 hz
    have hh := hh.below hb
    have hk := hk.below hb
    have hx := below_up hx hb
    obtain ⟨q0, q1⟩ := hk.two_
    have hz := hk.lt
    have hT := hT.below hb
    have hG := hG.below hb
    have hR := hR.below hb
    clear hb
    have lG : (goldL atts segs.length).length ≤ 1000 := by rw [goldL_len]; omega
    have lR : (recK segs.length atts atts.length).2.length ≤ 1000 := by have := (recK_bd HO.out atts.length (Nat.le_refl _)).2.2; omega
    have hbI := bI_inv segs.length atts atts.length (Nat.le_refl _)
    have HBI := Lib.hid hbI
    clear hbI
    rcases atI_inv atts no with hat | ⟨ka, hka, hat, _⟩
    · obtain ⟨t1, t2⟩ := timesAt_none hat
      rw [hat]
      rw [t1] at hT ⊢
      rw [t2]
      have hI : Row w1 0 1 none ([] : List Int).length (ints []) := Row.none_ _ _ _ _
      have lI : ([] : List Int).length ≤ 1000 := by simp
      clear t1 t2
      go_upto_region 17 with (fail)
      have hb : Below w1.heap.size w1 w1.drew := (Below.refl _ _).drew
      clear q0 q1 hz
      have hh := hh.below hb
      have hk := hk.below hb
      have hx := below_up hx hb
      obtain ⟨q0, q1⟩ := hk.two_
      have hz := hk.lt
      have hT := hT.below hb
      have hG := hG.below hb
      have hR := hR.below hb
      have hI := hI.below hb
      clear hb
      refine wp_region_held_drew (S := (fun w' => w'.cell? ⟨bx, 0, none⟩ = some (.slice SA segs.length c') ∧ w'.cell? ⟨bx, 1, none⟩ = some (.slice TA atts.length d'))) (by kernel_rfl) (⟨q0, q1⟩) (fun hHeld => ?_)
      (refine wpAnyH_take (i := 0) (v := ?_) (by (simp only [List.getElem?_toArray, List.getElem?_cons_zero]; rfl)) (by kernel_rfl) (by kernel_rfl) (by kernel_rfl) (by exact fun _ _ _ h => h) (Or.inl ⟨by rfl, ?_⟩) (by assumption) ?_; (rotate_left 1; (intro w hSw; (try dsimp only at hSw); go_simp); (try with_reducible rfl)); (try simp only [Act.put, List.setIfInBounds_toArray, List.set_cons_zero, List.set_cons_succ]))
      (refine wpAnyH_take (i := 2) (v := ?_) (by (simp only [List.getElem?_toArray, List.getElem?_cons_succ, List.getElem?_cons_zero]; rfl)) (by kernel_rfl) (by kernel_rfl) (by kernel_rfl) (by exact fun _ _ _ h => h) (Or.inl ⟨by rfl, ?_⟩) (by assumption) ?_; (rotate_left 1; (intro w hSw; (try dsimp only at hSw); go_simp); (try with_reducible rfl)); (try simp only [Act.put, List.setIfInBounds_toArray, List.set_cons_zero, List.set_cons_succ]))
      refine wpAnyH_ready (rs := [1]) (by kernel_rfl) (by simp) ?_
      refine AllReadyH.cons rfl (fun K hK => ?_) AllReadyH.nil
      go_simp
      go_at_call 19
      refine (leastFrom0_ok SA _ c' d' _ segs atts _ hh HO.out).mono ?_
      rintro e w1 ⟨rfl, hb⟩
      clear q0 q1 hz
      have hh := hh.below hb
      have hk := hk.below hb
      have hx := below_up hx hb
      obtain ⟨q0, q1⟩ := hk.two_
      have hz := hk.lt
      have hT := hT.below hb
      have hG := hG.below hb
      have hR := hR.below hb
      have hI := hI.below hb
      clear hb
      go_wp2_with fail
      refine hK.out _ _ (⟨q0, q1⟩) (fun hHeld => ?_)
      clear hK K
      (try simp only [Act.put, List.setIfInBounds_toArray, List.set_cons_zero, List.set_cons_succ])
      refine wpAnyH_ready (rs := [3]) (by kernel_rfl) (by simp) ?_
      refine AllReadyH.cons rfl (fun K hK => ?_) AllReadyH.nil
      go_simp
      go_at_call 20
      refine (bestAttempt_ok SA _ c' d' _ segs atts _ hh n1 (by omega) (by omega)).mono ?_
      rintro e w1 ⟨rfl, hb⟩
      clear q0 q1 hz
      have hh := hh.below hb
      have hk := hk.below hb
      have hx := below_up hx hb
      obtain ⟨q0, q1⟩ := hk.two_
      have hz := hk.lt
      have hT := hT.below hb
      have hG := hG.below hb
      have hR := hR.below hb
      have hI := hI.below hb
      clear hb
      go_wp2_with fail
      refine hK.out _ _ (⟨q0, q1⟩) (fun hHeld => ?_)
      clear hK K
      (try simp only [Act.put, List.setIfInBounds_toArray, List.set_cons_zero, List.set_cons_succ])
      (refine wpAnyH_take (i := 4) (v := ?_) (by (simp only [List.getElem?_toArray, List.getElem?_cons_succ, List.getElem?_cons_zero]; rfl)) (by kernel_rfl) (by kernel_rfl) (by kernel_rfl) (by exact fun _ _ _ h => h) (Or.inl ⟨by rfl, ?_⟩) (by assumption) ?_; (rotate_left 1; (intro w hSw; (try dsimp only at hSw); go_simp); (try with_reducible rfl)); (try simp only [Act.put, List.setIfInBounds_toArray, List.set_cons_zero, List.set_cons_succ]))
      (refine wpAnyH_take (i := 5) (v := ?_) (by (simp only [List.getElem?_toArray, List.getElem?_cons_succ, List.getElem?_cons_zero]; rfl)) (by kernel_rfl) (by kernel_rfl) (by kernel_rfl) (by exact fun _ _ _ h => h) (Or.inl ⟨by rfl, ?_⟩) (by assumption) ?_; (rotate_left 1; (intro w hSw; (try dsimp only at hSw); go_simp); (try with_reducible rfl)); (try simp only [Act.put, List.setIfInBounds_toArray, List.set_cons_zero, List.set_cons_succ]))
      refine wpAnyH_done (by kernel_rfl) ?_ _
      go_wp2_with fail
      refine (noneFault_any _ _).mono ?_
      rintro e w9 ⟨rfl, rfl⟩
      go_wp2_with fail
      refine (equalI_any _ _ _ _ _ _ [] [] _ hT hI (by omega) (by omega)).mono ?_
      rintro e w1 ⟨rfl, q, rfl⟩
      have hb : Below w1.heap.size w1 (w1.drewN q) := below_drewN' (Below.refl _ _) q
      rw [decide_eq_true rfl]
      clear q0 q1 hz
      have hh := hh.below hb
      have hk := hk.below hb
      have hx := below_up hx hb
      obtain ⟨q0, q1⟩ := hk.two_
      have hz := hk.lt
      have hT := hT.below hb
      have hG := hG.below hb
      have hR := hR.below hb
      have hI := hI.below hb
      clear hb
      generalize w1.drewN q = w1 at *
      go_wp2_with fail
      refine (goldsOf_any SA _ c' d' _ segs atts _ hh HO.out).mono ?_
      rintro e w1 ⟨A4, c4, rfl, ho4, hb⟩
      clear q0 q1 hz
      have hh := hh.below hb
      have hk := hk.below hb
      have hx := below_up hx hb
      obtain ⟨q0, q1⟩ := hk.two_
      have hz := hk.lt
      have hT := hT.below hb
      have hG := hG.below hb
      have hR := hR.below hb
      have hI := hI.below hb
      clear hb
      have hG2 := Row.of_own ho4
      clear ho4
      go_wp2_with fail
      refine (equalI_any _ _ _ _ _ _ (goldL atts segs.length) (goldL atts segs.length) _ hG hG2 (by omega) (by omega)).mono ?_
      rintro e w1 ⟨rfl, q, rfl⟩
      have hb : Below w1.heap.size w1 (w1.drewN q) := below_drewN' (Below.refl _ _) q
      rw [decide_eq_true rfl]
      clear q0 q1 hz
      have hh := hh.below hb
      have hk := hk.below hb
      have hx := below_up hx hb
      obtain ⟨q0, q1⟩ := hk.two_
      have hz := hk.lt
      have hT := hT.below hb
      have hG := hG.below hb
      have hR := hR.below hb
      have hI := hI.below hb
      clear hb
      generalize w1.drewN q = w1 at *
      go_wp2_with fail
      refine (recordsOf_ok SA _ c' d' _ segs atts _ hh HO.out).mono ?_
      rintro e w1 ⟨A6, c6, rfl, ho6, hb⟩
      clear q0 q1 hz
      have hh := hh.below hb
      have hk := hk.below hb
      have hx := below_up hx hb
      obtain ⟨q0, q1⟩ := hk.two_
      have hz := hk.lt
      have hT := hT.below hb
      have hG := hG.below hb
      have hR := hR.below hb
      have hI := hI.below hb
      clear hb
      have hR2 := Row.of_own ho6
      clear ho6
      go_wp2_with fail
      refine (equalI_any _ _ _ _ _ _ (recK segs.length atts atts.length).2 (recK segs.length atts atts.length).2 _ hR hR2 (by omega) (by omega)).mono ?_
      rintro e w1 ⟨rfl, q, rfl⟩
      have hb : Below w1.heap.size w1 (w1.drewN q) := below_drewN' (Below.refl _ _) q
      rw [decide_eq_true rfl]
      clear q0 q1 hz
      have hh := hh.below hb
      have hk := hk.below hb
      have hx := below_up hx hb
      obtain ⟨q0, q1⟩ := hk.two_
      have hz := hk.lt
      have hT := hT.below hb
      have hG := hG.below hb
      have hR := hR.below hb
      have hI := hI.below hb
      clear hb
      generalize w1.drewN q = w1 at *
      rcases HBI.out with hb0 | ⟨kb, hkb, hb0, _, hkn⟩
      · obtain ⟨b1, b2, b3⟩ := bT_none hb0
        go_wp2_with fail
        refine (summed_any _).mono ?_
        rintro e w9 ⟨rfl, hb9⟩
        go_wp2_with fail
        go_ret
        exact ⟨rfl, below_up hx hb9⟩
      · obtain ⟨b1, b2, b3⟩ := bT_at hb0 hkb hkn (by omega)
        obtain ⟨tb2, tO2, B2, cB2, eT2, ztb2, y0, y1, hrB2⟩ := hh.att hkb
        subst eT2
        obtain ⟨l, hl⟩ : ∃ l, l + 1 = segs.length := ⟨segs.length - 1, by omega⟩
        have wl : IntKind.i64.wrap ((segs.length : Int) - 1) = (l : Int) := by rw [IntWalk.i64_in _ ⟨by omega, by omega⟩]; omega
        have hl1 : l < atts[kb].2.length := by omega
        have hln : l < segs.length := by omega
        obtain ⟨b5, o5, rfl, _, zb5, x5⟩ := hrB2.int_at hl1
        have ex : atts[kb].2[segs.length - 1]'(by omega) = atts[kb].2[l] := by congr 1; omega
        rw [ex] at b1
        clear ex
        rw [hkn] at y1
        generalize atts[kb].2[l] = xl at *
        generalize atts[kb].1 = no2 at *
        have hxs := hx.size
        clear hrB2 hkn hl1
        go_wp2_with fail
        refine (summed_any _).mono ?_
        rintro e w9 ⟨rfl, hb9⟩
        go_wp2_with fail
        go_ret
        exact ⟨rfl, below_up (by repeat (first | exact hx | refine Below.alloc ?_ (by first | omega | (simp; omega)) _ | refine below_drewN' ?_ _ | refine Below.drew ?_)) hb9⟩
    · obtain ⟨t1, t2⟩ := timesAt_some hka hat
      have T1 := Lib.hid t1
      have T2 := Lib.hid t2
      have HSPk := Lib.hid (HO.out.spl ka hka)
      obtain ⟨tb, tO, B, cB, eTA, ztb, x0, x1, hrB⟩ := hh.att hka
      subst eTA
      have ge : decide ((0 : Int) ≤ (ka : Int)) = true := by simp
      have hsl9 := HSPk.out.len
      rw [hat]
      clear t1 t2
      go_wp2_with fail
      refine (lengthsOf_any segs.length B _ _ atts[ka].2 _ hrB (by omega) HSPk.out).mono ?_
      rintro e w1 ⟨A5, c5, rfl, ho5, hb⟩
      clear q0 q1 hz
      have hh := hh.below hb
      have hk := hk.below hb
      have hx := below_up hx hb
      obtain ⟨q0, q1⟩ := hk.two_
      have hz := hk.lt
      have hT := hT.below hb
      have hG := hG.below hb
      have hR := hR.below hb
      clear hb
      have hI := Row.of_own ho5
      have lI : (tmL atts[ka].2 atts[ka].2.length).length ≤ 1000 := by rw [tmL_len]; omega
      rw [T1.out] at hT ⊢
      rw [T2.out]
      clear ho5 x0 x1 hrB
      generalize tmL atts[ka].2 atts[ka].2.length = tm at *
      go_upto_region 17 with (fail)
      have hb : Below w1.heap.size w1 w1.drew := (Below.refl _ _).drew
      clear q0 q1 hz
      have hh := hh.below hb
      have hk := hk.below hb
      have hx := below_up hx hb
      obtain ⟨q0, q1⟩ := hk.two_
      have hz := hk.lt
      have hT := hT.below hb
      have hG := hG.below hb
      have hR := hR.below hb
      have hI := hI.below hb
      clear hb
      refine wp_region_held_drew (S := (fun w' => w'.cell? ⟨bx, 0, none⟩ = some (.slice SA segs.length c') ∧ w'.cell? ⟨bx, 1, none⟩ = some (.slice (some ⟨tb, tO, none⟩) atts.length d'))) (by kernel_rfl) (⟨q0, q1⟩) (fun hHeld => ?_)
      (refine wpAnyH_take (i := 0) (v := ?_) (by (simp only [List.getElem?_toArray, List.getElem?_cons_zero]; rfl)) (by kernel_rfl) (by kernel_rfl) (by kernel_rfl) (by exact fun _ _ _ h => h) (Or.inl ⟨by rfl, ?_⟩) (by assumption) ?_; (rotate_left 1; (intro w hSw; (try dsimp only at hSw); go_simp); (try with_reducible rfl)); (try simp only [Act.put, List.setIfInBounds_toArray, List.set_cons_zero, List.set_cons_succ]))
      (refine wpAnyH_take (i := 2) (v := ?_) (by (simp only [List.getElem?_toArray, List.getElem?_cons_succ, List.getElem?_cons_zero]; rfl)) (by kernel_rfl) (by kernel_rfl) (by kernel_rfl) (by exact fun _ _ _ h => h) (Or.inl ⟨by rfl, ?_⟩) (by assumption) ?_; (rotate_left 1; (intro w hSw; (try dsimp only at hSw); go_simp); (try with_reducible rfl)); (try simp only [Act.put, List.setIfInBounds_toArray, List.set_cons_zero, List.set_cons_succ]))
      refine wpAnyH_ready (rs := [1]) (by kernel_rfl) (by simp) ?_
      refine AllReadyH.cons rfl (fun K hK => ?_) AllReadyH.nil
      go_simp
      go_at_call 19
      refine (leastFrom0_ok SA _ c' d' _ segs atts _ hh HO.out).mono ?_
      rintro e w1 ⟨rfl, hb⟩
      clear q0 q1 hz
      have hh := hh.below hb
      have hk := hk.below hb
      have hx := below_up hx hb
      obtain ⟨q0, q1⟩ := hk.two_
      have hz := hk.lt
      have hT := hT.below hb
      have hG := hG.below hb
      have hR := hR.below hb
      have hI := hI.below hb
      clear hb
      go_wp2_with fail
      refine hK.out _ _ (⟨q0, q1⟩) (fun hHeld => ?_)
      clear hK K
      (try simp only [Act.put, List.setIfInBounds_toArray, List.set_cons_zero, List.set_cons_succ])
      refine wpAnyH_ready (rs := [3]) (by kernel_rfl) (by simp) ?_
      refine AllReadyH.cons rfl (fun K hK => ?_) AllReadyH.nil
      go_simp
      go_at_call 20
      refine (bestAttempt_ok SA _ c' d' _ segs atts _ hh n1 (by omega) (by omega)).mono ?_
      rintro e w1 ⟨rfl, hb⟩
      clear q0 q1 hz
      have hh := hh.below hb
      have hk := hk.below hb
      have hx := below_up hx hb
      obtain ⟨q0, q1⟩ := hk.two_
      have hz := hk.lt
      have hT := hT.below hb
      have hG := hG.below hb
      have hR := hR.below hb
      have hI := hI.below hb
      clear hb
      go_wp2_with fail
      refine hK.out _ _ (⟨q0, q1⟩) (fun hHeld => ?_)
      clear hK K
      (try simp only [Act.put, List.setIfInBounds_toArray, List.set_cons_zero, List.set_cons_succ])
      (refine wpAnyH_take (i := 4) (v := ?_) (by (simp only [List.getElem?_toArray, List.getElem?_cons_succ, List.getElem?_cons_zero]; rfl)) (by kernel_rfl) (by kernel_rfl) (by kernel_rfl) (by exact fun _ _ _ h => h) (Or.inl ⟨by rfl, ?_⟩) (by assumption) ?_; (rotate_left 1; (intro w hSw; (try dsimp only at hSw); go_simp); (try with_reducible rfl)); (try simp only [Act.put, List.setIfInBounds_toArray, List.set_cons_zero, List.set_cons_succ]))
      (refine wpAnyH_take (i := 5) (v := ?_) (by (simp only [List.getElem?_toArray, List.getElem?_cons_succ, List.getElem?_cons_zero]; rfl)) (by kernel_rfl) (by kernel_rfl) (by kernel_rfl) (by exact fun _ _ _ h => h) (Or.inl ⟨by rfl, ?_⟩) (by assumption) ?_; (rotate_left 1; (intro w hSw; (try dsimp only at hSw); go_simp); (try with_reducible rfl)); (try simp only [Act.put, List.setIfInBounds_toArray, List.set_cons_zero, List.set_cons_succ]))
      refine wpAnyH_done (by kernel_rfl) ?_ _
      have dk : decide ((ka : Int) < 0) = false := by simp
      go_wp2_with fail
      refine (noneFault_any _ _).mono ?_
      rintro e w9 ⟨rfl, rfl⟩
      go_wp2_with fail
      refine (equalI_any _ _ _ _ _ _ tm tm _ hT hI (by omega) (by omega)).mono ?_
      rintro e w1 ⟨rfl, q, rfl⟩
      have hb : Below w1.heap.size w1 (w1.drewN q) := below_drewN' (Below.refl _ _) q
      rw [decide_eq_true rfl]
      clear q0 q1 hz
      have hh := hh.below hb
      have hk := hk.below hb
      have hx := below_up hx hb
      obtain ⟨q0, q1⟩ := hk.two_
      have hz := hk.lt
      have hT := hT.below hb
      have hG := hG.below hb
      have hR := hR.below hb
      have hI := hI.below hb
      clear hb
      generalize w1.drewN q = w1 at *
      go_wp2_with fail
      refine (goldsOf_any SA _ c' d' _ segs atts _ hh HO.out).mono ?_
      rintro e w1 ⟨A4, c4, rfl, ho4, hb⟩
      clear q0 q1 hz
      have hh := hh.below hb
      have hk := hk.below hb
      have hx := below_up hx hb
      obtain ⟨q0, q1⟩ := hk.two_
      have hz := hk.lt
      have hT := hT.below hb
      have hG := hG.below hb
      have hR := hR.below hb
      have hI := hI.below hb
      clear hb
      have hG2 := Row.of_own ho4
      clear ho4
      go_wp2_with fail
      refine (equalI_any _ _ _ _ _ _ (goldL atts segs.length) (goldL atts segs.length) _ hG hG2 (by omega) (by omega)).mono ?_
      rintro e w1 ⟨rfl, q, rfl⟩
      have hb : Below w1.heap.size w1 (w1.drewN q) := below_drewN' (Below.refl _ _) q
      rw [decide_eq_true rfl]
      clear q0 q1 hz
      have hh := hh.below hb
      have hk := hk.below hb
      have hx := below_up hx hb
      obtain ⟨q0, q1⟩ := hk.two_
      have hz := hk.lt
      have hT := hT.below hb
      have hG := hG.below hb
      have hR := hR.below hb
      have hI := hI.below hb
      clear hb
      generalize w1.drewN q = w1 at *
      go_wp2_with fail
      refine (recordsOf_ok SA _ c' d' _ segs atts _ hh HO.out).mono ?_
      rintro e w1 ⟨A6, c6, rfl, ho6, hb⟩
      clear q0 q1 hz
      have hh := hh.below hb
      have hk := hk.below hb
      have hx := below_up hx hb
      obtain ⟨q0, q1⟩ := hk.two_
      have hz := hk.lt
      have hT := hT.below hb
      have hG := hG.below hb
      have hR := hR.below hb
      have hI := hI.below hb
      clear hb
      have hR2 := Row.of_own ho6
      clear ho6
      go_wp2_with fail
      refine (equalI_any _ _ _ _ _ _ (recK segs.length atts atts.length).2 (recK segs.length atts atts.length).2 _ hR hR2 (by omega) (by omega)).mono ?_
      rintro e w1 ⟨rfl, q, rfl⟩
      have hb : Below w1.heap.size w1 (w1.drewN q) := below_drewN' (Below.refl _ _) q
      rw [decide_eq_true rfl]
      clear q0 q1 hz
      have hh := hh.below hb
      have hk := hk.below hb
      have hx := below_up hx hb
      obtain ⟨q0, q1⟩ := hk.two_
      have hz := hk.lt
      have hT := hT.below hb
      have hG := hG.below hb
      have hR := hR.below hb
      have hI := hI.below hb
      clear hb
      generalize w1.drewN q = w1 at *
      rcases HBI.out with hb0 | ⟨kb, hkb, hb0, _, hkn⟩
      · obtain ⟨b1, b2, b3⟩ := bT_none hb0
        go_wp2_with fail
        refine (summed_any _).mono ?_
        rintro e w9 ⟨rfl, hb9⟩
        go_wp2_with fail
        go_ret
        exact ⟨rfl, below_up hx hb9⟩
      · obtain ⟨b1, b2, b3⟩ := bT_at hb0 hkb hkn (by omega)
        obtain ⟨tb2, tO2, B2, cB2, eT2, ztb2, y0, y1, hrB2⟩ := hh.att hkb
        obtain ⟨rfl, rfl⟩ : tb = tb2 ∧ tO = tO2 := by injection eT2 with eT2; injection eT2 with h1 h2; exact ⟨h1, h2⟩
        clear eT2
        obtain ⟨l, hl⟩ : ∃ l, l + 1 = segs.length := ⟨segs.length - 1, by omega⟩
        have wl : IntKind.i64.wrap ((segs.length : Int) - 1) = (l : Int) := by rw [IntWalk.i64_in _ ⟨by omega, by omega⟩]; omega
        have hl1 : l < atts[kb].2.length := by omega
        have hln : l < segs.length := by omega
        obtain ⟨b5, o5, rfl, _, zb5, x5⟩ := hrB2.int_at hl1
        have ex : atts[kb].2[segs.length - 1]'(by omega) = atts[kb].2[l] := by congr 1; omega
        rw [ex] at b1
        clear ex
        rw [hkn] at y1
        generalize atts[kb].2[l] = xl at *
        generalize atts[kb].1 = no2 at *
        have hxs := hx.size
        clear hrB2 hkn hl1
        go_wp2_with fail
        refine (summed_any _).mono ?_
        rintro e w9 ⟨rfl, hb9⟩
        go_wp2_with fail
        go_ret
        exact ⟨rfl, below_up (by repeat (first | exact hx | refine Below.alloc ?_ (by first | omega | (simp; omega)) _ | refine below_drewN' ?_ _ | refine Below.drew ?_)) hb9⟩
  · have d5 : (histF segs atts != 0) = true := by simpa using hf
    refine (Times_bad SA TA c' d' _ no segs atts _ hh hz9 hf).mono ?_
    rintro e w1 ⟨rfl, hb⟩
    clear q0 q1 hz
    have hh := hh.below hb
    have hk := hk.below hb
    have hx := below_up hx hb
    obtain ⟨q0, q1⟩ := hk.two_
    have hz := hk.lt
    clear hb
    go_wp2_with fail
    refine (Golds_bad SA TA c' d' _ segs atts _ hh hz9 hf).mono ?_
    rintro e w1 ⟨rfl, hb⟩
    clear q0 q1 hz
    have hh := hh.below hb
    have hk := hk.below hb
    have hx := below_up hx hb
    obtain ⟨q0, q1⟩ := hk.two_
    have hz := hk.lt
    clear hb
    go_wp2_with fail
    refine (SumOfBest_bad SA TA c' d' _ segs atts _ hh hz9 hf).mono ?_
    rintro e w1 ⟨rfl, hb⟩
    clear q0 q1 hz
    have hh := hh.below hb
    have hk := hk.below hb
    have hx := below_up hx hb
    obtain ⟨q0, q1⟩ := hk.two_
    have hz := hk.lt
    clear hb
    go_wp2_with fail
    refine (Best_bad SA TA c' d' _ segs atts _ hh hz9 hf).mono ?_
    rintro e w1 ⟨rfl, hb⟩
    clear q0 q1 hz
    have hh := hh.below hb
    have hk := hk.below hb
    have hx := below_up hx hb
    obtain ⟨q0, q1⟩ := hk.two_
    have hz := hk.lt
    clear hb
    go_wp2_with fail
    refine (Records_bad SA TA c' d' _ segs atts _ hh hz9 hf).mono ?_
    rintro e w1 ⟨rfl, hb⟩
    clear q0 q1 hz
    have hh := hh.below hb
    have hk := hk.below hb
    have hx := below_up hx hb
    obtain ⟨q0, q1⟩ := hk.two_
    have hz := hk.lt
    clear hb
    clear hf
    generalize histF segs atts = ef at *
    go_wp2_with fail
    refine (summed_any _).mono ?_
    rintro e w2 ⟨rfl, hb⟩
    go_wp2_with fail
    go_ret
    exact ⟨rfl, below_up hx hb⟩
end Go.Proofs.YtagghmfhfboejaaGreatDoor
