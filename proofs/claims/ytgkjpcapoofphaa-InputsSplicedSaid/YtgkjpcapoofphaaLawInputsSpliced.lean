/- For every list of numbers the law InputsSpliced returns true and leaves the list as it was: its walk. -/
import Derived.Test.YtgkjpcapoofphaaInpJ
import Derived.Deep.DeepCutAuto
namespace Go.Proofs.Ytgkjpcapoofphaa
open Go.RowKit

theorem cutE_or (ps : List (Int × Int)) (f t : Int) : firstE [inFault ps, bif cutOk f t then 0 else 1] = cutE ps f t := by
  rw [firstE_two]; unfold cutE
  cases h : cutOk f t <;> simp

theorem cutE_zero {ps : List (Int × Int)} {f t : Int} (h : cutE ps f t = 0) : inFault ps = 0 ∧ cutOk f t = true := by
  unfold cutE at h
  by_cases h0 : inFault ps = 0
  · simp only [h0, if_true] at h
    by_cases h1 : cutOk f t = true
    · exact ⟨h0, h1⟩
    · simp [h1] at h
  · simp only [h0, if_false] at h
theorem cutR_long {ps : List (Int × Int)} {f t : Int} (h : ¬ cutE ps f t = 0) : cutR ps f t = [] := by
  refine cutR_bad fun h' => h ?_
  simp [cutE, h'.1, h'.2]
theorem spE_or (ps qs : List (Int × Int)) (n : Int) (h : ¬ firstE [firstE [inFault ps, inFault qs], spanFault n 0 200000] = 0) : spE ps qs n = firstE [firstE [inFault ps, inFault qs], spanFault n 0 200000] ∧ spR ps qs n = [] := by
  generalize hf : firstE [inFault ps, inFault qs] = f at *
  rw [firstE_two] at h ⊢
  by_cases h0 : f = 0
  · simp only [h0, if_true] at h ⊢
    refine ⟨?_, spR_bad fun h' => h h'.2⟩
    have h1 : spanFault n 0 200000 = 1 := by unfold spanFault at *; split <;> simp_all
    rw [h1]; exact spE_span (hf.trans h0) h1
  · simp only [h0, if_false]
    exact ⟨(spE_bad (by rw [hf]; exact h0)).trans hf, spR_bad fun h' => h0 (hf ▸ h'.1)⟩
theorem spE_both {ps qs : List (Int × Int)} {n : Int} (h : firstE [firstE [inFault ps, inFault qs], spanFault n 0 200000] = 0) : inFault ps = 0 ∧ inFault qs = 0 ∧ spanFault n 0 200000 = 0 ∧ spE ps qs n = sqE (unf ps) (unf qs) n.toNat ∧ spR ps qs n = sqR (unf ps) (unf qs) n.toNat := by
  obtain ⟨h1, h2⟩ := two_ok h
  obtain ⟨h3, h4⟩ := two_ok h1
  exact ⟨h3, h4, h2, spE_ok h1 h2, spR_ok h1 h2⟩
theorem spR_le (ps qs : List (Int × Int)) (n : Int) : (spR ps qs n).length ≤ 5000 := by
  unfold spR
  split
  · unfold sqR
    split
    · rename_i h
      unfold sqE at h
      split at h
      · cases h
      · split at h
        · cases h
        · omega
    · simp
  · simp
theorem span_is {n lo hi : Int} (h : spanFault n lo hi = 0) : lo ≤ n ∧ n ≤ hi := by
  unfold spanFault at h
  split at h
  · assumption
  · cases h
theorem inOk_pos {ps : List (Int × Int)} (h : inFault ps = 0) : ∀ p ∈ ps, 0 ≤ p.2 := fun p hp => by have := (inFault_ok h).2.1 p hp; omega

set_option maxHeartbeats 4000000 in
set_option maxRecDepth 100000 in
theorem spliced_walk (A : Option Addr) (n c : Nat) (w : World) (hn : n ≤ 9223372036854775807)
    (hz : ∀ k, k < n → ∃ b off z, A = some ⟨b, off, none⟩ ∧ b < w.heap.size ∧ w.cell? ⟨b, off + k, none⟩ = some (.int .i64 z) ∧ I64 z) :
    LawCall 6 A n c w := by
  have hstr := str_make (c := c) hn hz
  clear hz
  go_enter Try.func6, Try.ntmps6
  go_wp2_with fail
  refine (pieces_any w.heap.size 0 _ hstr (by omega)).mono ?_
  rintro e w1 ⟨Ax, cx, ps, rfl, hown1, hps6, hs1, hg1⟩
  have hb1 : Below w.heap.size w w1 := ((Below.refl _ _).alloc (Nat.le_refl _) _).grown hg1 (by simp) (fun k hk => by injection hk with hk; omega)
  have hrow1 := Row.of_own hown1
  rw [World.size_alloc] at hrow1
  have hl : ps.length ≤ 1000000000 := by omega
  have z1 := hs1.lt
  clear hown1 hg1 hstr
  go_wp2_with fail
  refine (pieces_any w.heap.size _ _ hs1 (by omega)).mono ?_
  rintro e w2 ⟨Bx, dx, qs, rfl, hown2, hqs6, hs2, hg2⟩
  have hb2 : Below w.heap.size w w2 := hb1.grown hg2 hb1.size (fun k hk => by injection hk with hk; omega)
  have hrow2 := hrow1.grown hg2 (by omega)
  have hrowq2 := (Row.of_own hown2).weak (show w.heap.size + 1 ≤ w1.heap.size by omega)
  clear hown2 hg2 hb1 hrow1 hs1 z1
  go_wp2_with fail
  refine (flip_any w.heap.size _ _ _ hs2 (by omega) (by omega)).mono ?_
  rintro e w3 ⟨r, rfl, hs3, hg3⟩
  have hb3 : Below w.heap.size w w3 := hb2.grown hg3 hb2.size (fun k hk => by injection hk with hk; omega)
  have hrow3 := hrow2.grown hg3 (by omega)
  have hrowq3 := hrowq2.grown hg3 (by omega)
  have z3 := hs3.lt
  clear hg3 hb2 hrow2 hrowq2 hs2
  go_upto_if 28 with fail
  go_cut [5] (fun s5 wx => ∃ (B : Option Addr) (d : Nat) (rs : List (Int × Int)), s5 = .slice B rs.length d ∧ rs.length ≤ 6 ∧ Row wx (w.heap.size + 1) 2 Ax ps.length (prs ps) ∧ Row wx (w.heap.size + 1) 2 B rs.length (prs rs) ∧ Str wx w.heap.size 100 ∧ Below w.heap.size w wx)
  case first =>
    cases r
    · go_wp2_with fail
      go_meet
      exact ⟨Bx, dx, qs, rfl, hqs6, hrow3, hrowq3, hs3.more (by omega), hb3⟩
    · go_wp2_with fail
      refine (cloneP_any _ _ _ ps _ hrow3 hl).mono ?_
      rintro e w4 ⟨B4, d4, rfl, hown4, hb4⟩
      go_wp2_with fail
      go_meet
      exact ⟨B4, d4, ps, rfl, hps6, hrow3.below hb4, (Row.of_own hown4).weak (by omega), (hs3.keep hb4).more (by omega), below_up hb3 hb4⟩
  case rest =>
    clear hb3 hrow3 hrowq3 hs3 z3 hqs6
    obtain ⟨B, d, rs, rfl, hrs6, hrow4, hrowq4, hs4, hb4⟩ := hcut
    have hl' : rs.length ≤ 1000000000 := by omega
    have z4 := hs4.lt
    go_wp2_with fail
    refine (pick_any w.heap.size _ (w.heap.size + 1) _ _ [0, 0, 3, 60, -1] _ (hs4.alloc _) (by omega) (by first | exact row_new' _ (by first | rfl | simp) (by first | omega | (simp; omega)) rfl | exact row_newN _ _ (by first | rfl | simp) (by first | omega | (simp; omega)) rfl | exact row_newD _ (by first | rfl | simp) (by first | omega | (simp; omega)) rfl) (by omega) (by simp) (by simp)).mono ?_
    rintro e w5 ⟨fr, rfl, hfr, hs5, hg5⟩
    have hb5 : Below w.heap.size w w5 := (hb4.alloc hb4.size _).grown hg5 (by have := hb4.size; simp; omega) (fun k hk => by injection hk with hk; omega)
    have hrow5 := (hrow4.alloc _).grown hg5 (by omega)
    have hrowq5 := (hrowq4.alloc _).grown hg5 (by omega)
    have z5 := hs5.lt
    clear hg5 hb4 hrow4 hrowq4 hs4 z4
    go_wp2_with fail
    refine (pick_any w.heap.size _ (w.heap.size + 1) _ _ [0, 5, 100, 200000, 200001] _ (hs5.alloc _) (by omega) (by first | exact row_new' _ (by first | rfl | simp) (by first | omega | (simp; omega)) rfl | exact row_newN _ _ (by first | rfl | simp) (by first | omega | (simp; omega)) rfl | exact row_newD _ (by first | rfl | simp) (by first | omega | (simp; omega)) rfl) (by omega) (by simp) (by simp)).mono ?_
    rintro e w6 ⟨te, rfl, hto, hs6, hg6⟩
    have hb6 : Below w.heap.size w w6 := (hb5.alloc hb5.size _).grown hg6 (by have := hb5.size; simp; omega) (fun k hk => by injection hk with hk; omega)
    have hrow6 := (hrow5.alloc _).grown hg6 (by omega)
    have hrowq6 := (hrowq5.alloc _).grown hg6 (by omega)
    have z6 := hs6.lt
    clear hg6 hb5 hrow5 hrowq5 hs5 z5
    go_wp2_with fail
    refine (pick_any w.heap.size _ (w.heap.size + 1) _ _ [0, 2, 10, 100, -1, 200000] _ (hs6.alloc _) (by omega) (by first | exact row_new' _ (by first | rfl | simp) (by first | omega | (simp; omega)) rfl | exact row_newN _ _ (by first | rfl | simp) (by first | omega | (simp; omega)) rfl | exact row_newD _ (by first | rfl | simp) (by first | omega | (simp; omega)) rfl) (by omega) (by simp) (by simp)).mono ?_
    rintro e w7 ⟨ta, rfl, hta, hs7, hg7⟩
    have hb7 : Below w.heap.size w w7 := (hb6.alloc hb6.size _).grown hg7 (by have := hb6.size; simp; omega) (fun k hk => by injection hk with hk; omega)
    have hr := (hrow6.alloc _).grown hg7 (by omega)
    have hq := (hrowq6.alloc _).grown hg7 (by omega)
    clear hg7 hb6 hrow6 hrowq6 hs6 z6 hs7
    have hfr2 : -1 ≤ fr ∧ fr ≤ 60 := by simp at hfr; omega
    have hto2 : 0 ≤ te ∧ te ≤ 200001 := by simp at hto; omega
    have hta2 : -1 ≤ ta ∧ ta ≤ 200000 := by simp at hta; omega
    clear hfr hto hta
    obtain ⟨f1, f2⟩ := hfr2
    obtain ⟨t1, t2⟩ := hto2
    obtain ⟨a1, a2⟩ := hta2
    have hx := Below.refl w7.heap.size w7
    go_wp2_with fail
    refine (inputFault_any _ _ _ ps _ (hr.below hx) hl).mono ?_
    rintro e w8 ⟨rfl, hb⟩
    replace hx := below_up hx hb
    clear hb
    go_wp2_with fail
    refine (inputFault_any _ _ _ ps _ (hr.below hx) hl).mono ?_
    rintro e w9 ⟨rfl, hb⟩
    replace hx := below_up hx hb
    clear hb
    go_wp2_with fail
    refine (inputFault_any _ _ _ rs _ (hq.below hx) hl').mono ?_
    rintro e w10 ⟨rfl, hb⟩
    replace hx := below_up hx hb
    clear hb
    have zz := hx.size
    go_wp2_with fail
    refine (or_any _ _ w7.heap.size [inFault ps, inFault rs] _ (by first | exact row_new' _ (by first | rfl | simp) (by first | omega | (simp; omega)) rfl | exact row_newN _ _ (by first | rfl | simp) (by first | omega | (simp; omega)) rfl | exact row_newD _ (by first | rfl | simp) (by first | omega | (simp; omega)) rfl) (by simp)).mono ?_
    rintro e w11 ⟨rfl, rfl⟩
    replace hx := hx.alloc zz (.cells #[.int .i64 (inFault ps), .int .i64 (inFault rs)] 29)
    clear zz
    go_wp2_with fail
    refine (cut_any _ _ _ ps fr te _ (hr.below hx) hl).mono ?_
    rintro e w12 ⟨Ac, cc, rfl, hrc, hb⟩
    replace hx := below_up hx hb
    clear hb
    go_upto_region 8 with fail
    go_cut [13] (fun s13 wx => s13 = .int .i64 (cutE ps fr te) ∧ Row wx 0 2 Ac (cutR ps fr te).length (prs (cutR ps fr te)) ∧ Below w7.heap.size w7 wx)
    case first =>
      have hce := cutE_or ps fr te
      have HCE := Lib.hid hce
      have zz := hx.size
      have fin : ∀ (b : Bool) (K : Ending → World → Prop), (bif cutOk fr te then 0 else 1 : Int) = (bif b then 1 else 0) → (∀ e w', e = .returned (.int .i64 (bif cutOk fr te then 0 else 1)) ∧ w12 = w' → K e w') → Calls Try.prog 51 #[.bool b, .int .i64 1] w12 K := by
        intro b K h1 h2
        rw [h1] at h2
        exact (when_any b 1 _).mono h2
      have FIN := Lib.hid fin
      clear fin hce
      rcases Int.lt_or_le fr 0 with g1 | g1
      · have HK : Hid (cutOk fr te = false) := Lib.hid (by rw [Bool.eq_false_iff, Ne, cutOk_iff]; omega)
        go_wp2_with fail
        refine FIN.out _ _ (by rw [HK.out]; rfl) ?_
        rintro e w13 ⟨rfl, rfl⟩
        go_wp2_with fail
        refine (or_any _ _ w7.heap.size [inFault ps, bif cutOk fr te then 0 else 1] _ (by first | exact row_new' _ (by first | rfl | simp) (by first | omega | (simp; omega)) rfl | exact row_newN _ _ (by first | rfl | simp) (by first | omega | (simp; omega)) rfl | exact row_newD _ (by first | rfl | simp) (by first | omega | (simp; omega)) rfl) (by simp)).mono ?_
        rintro e w13 ⟨rfl, rfl⟩
        rw [HCE.out]
        go_wp2_with fail
        go_meet
        exact ⟨rfl, (hrc.weak (Nat.zero_le _)).alloc _, hx.alloc zz _⟩
      · have d1 : decide (fr < 0) = false := by simp; omega
        rcases Int.lt_or_le te fr with g2 | g2
        · have HK : Hid (cutOk fr te = false) := Lib.hid (by rw [Bool.eq_false_iff, Ne, cutOk_iff]; omega)
          go_wp2_with fail
          refine FIN.out _ _ (by rw [HK.out]; rfl) ?_
          rintro e w13 ⟨rfl, rfl⟩
          go_wp2_with fail
          refine (or_any _ _ w7.heap.size [inFault ps, bif cutOk fr te then 0 else 1] _ (by first | exact row_new' _ (by first | rfl | simp) (by first | omega | (simp; omega)) rfl | exact row_newN _ _ (by first | rfl | simp) (by first | omega | (simp; omega)) rfl | exact row_newD _ (by first | rfl | simp) (by first | omega | (simp; omega)) rfl) (by simp)).mono ?_
          rintro e w13 ⟨rfl, rfl⟩
          rw [HCE.out]
          go_wp2_with fail
          go_meet
          exact ⟨rfl, (hrc.weak (Nat.zero_le _)).alloc _, hx.alloc zz _⟩
        · have d2 : decide (te < fr) = false := by simp; omega
          have HK : Hid (decide (200000 < te) = !cutOk fr te) := Lib.hid (by
            rcases Int.lt_or_le 200000 te with g3 | g3
            · have : cutOk fr te = false := by rw [Bool.eq_false_iff, Ne, cutOk_iff]; omega
              rw [this]; simp; omega
            · have : cutOk fr te = true := by rw [cutOk_iff]; omega
              rw [this]; simp; omega)
          go_wp2_with fail
          refine FIN.out _ _ (by rw [HK.out]; cases cutOk fr te <;> rfl) ?_
          rintro e w13 ⟨rfl, rfl⟩
          go_wp2_with fail
          refine (or_any _ _ w7.heap.size [inFault ps, bif cutOk fr te then 0 else 1] _ (by first | exact row_new' _ (by first | rfl | simp) (by first | omega | (simp; omega)) rfl | exact row_newN _ _ (by first | rfl | simp) (by first | omega | (simp; omega)) rfl | exact row_newD _ (by first | rfl | simp) (by first | omega | (simp; omega)) rfl) (by simp)).mono ?_
          rintro e w13 ⟨rfl, rfl⟩
          rw [HCE.out]
          go_wp2_with fail
          go_meet
          exact ⟨rfl, (hrc.weak (Nat.zero_le _)).alloc _, hx.alloc zz _⟩
    case rest =>
      clear hrc hx
      obtain ⟨rfl, hrc, hx⟩ := hcut
      go_upto_region 9 with fail
      go_cut [94] (fun s94 wx => s94 = .bool false ∧ Below w7.heap.size w7 wx)
      case first =>
        by_cases c0 : cutE ps fr te = 0
        · obtain ⟨i0, k0⟩ := cutE_zero c0
          obtain ⟨k1, k2, k3⟩ := (cutOk_iff fr te).1 k0
          obtain ⟨i1, i2, i3⟩ := inFault_ok i0
          have HP := Lib.hid (inOk_pos i0)
          have CR := Lib.hid (cutR_ok i0 k0)
          have c1 : (cutE ps fr te == 0) = true := by simpa using c0
          have c2 : (cutE ps fr te != 0) = false := by simpa using c0
          obtain ⟨fn, rfl⟩ := Int.eq_ofNat_of_zero_le k1
          obtain ⟨tn, rfl⟩ := Int.eq_ofNat_of_zero_le (show 0 ≤ te by omega)
          have hfl := foldM_len (cutL (unf ps) fn tn)
          have hcl := cutL_len (unf ps) fn tn
          have hul : (unf ps).length ≤ 200000 := by have := unf_len ps HP.out; omega
          have CR2 : Hid (cutR ps (fn : Int) (tn : Int) = foldM (cutL (unf ps) fn tn)) := CR
          have hcl2 : (cutR ps (fn : Int) (tn : Int)).length ≤ 200000 := by rw [CR2.out]; omega
          clear i2 i0 k0 c0 CR
          go_wp2_with fail
          refine (cutOf_any _ _ _ ps fn tn _ (hr.below hx) hl HP.out (by omega) (by omega) (by omega)).mono ?_
          rintro e w13 ⟨A13, c13, rfl, hown13, hb⟩
          replace hx := below_up hx hb
          replace hrc := hrc.below hb
          clear hb
          go_wp2_with fail
          refine (equalP_any _ _ _ _ _ _ _ _ _ hrc (Row.of_own hown13) (by omega) (by omega)).mono ?_
          rintro e w14 ⟨rfl, q, rfl⟩
          have hd : decide (cutR ps (fn : Int) (tn : Int) = foldM (cutL (unf ps) fn tn)) = true := by simpa using CR2.out
          rw [hd]
          clear hd
          go_wp2_with fail
          go_meet
          exact ⟨rfl, below_drewN' hx q⟩
        · have c0' : (cutE ps fr te == 0) = false := by simpa using c0
          have c0'' : (cutE ps fr te != 0) = true := by simpa using c0
          have hcl : (cutR ps fr te).length ≤ 0 := by rw [cutR_long c0]; simp
          clear c0
          go_wp2_with fail
          go_meet
          exact ⟨congrArg Value.bool (decide_eq_false (by omega)), hx⟩
      case rest =>
        clear hrc hx
        obtain ⟨rfl, hx⟩ := hcut
        go_wp2_with fail
        refine (splice_any _ _ _ _ _ _ ps rs ta _ (hr.below hx) (hq.below hx) hl hl').mono ?_
        rintro e w13 ⟨A13, c13, rfl, hrs13, hb⟩
        replace hx := below_up hx hb
        clear hb
        go_wp2_with fail
        refine (span_any _ _ _ _).mono ?_
        rintro e w14 ⟨rfl, rfl⟩
        have zz := hx.size
        go_wp2_with fail
        refine (or_any _ _ w7.heap.size [firstE [inFault ps, inFault rs], spanFault ta 0 200000] _ (by first | exact row_new' _ (by first | rfl | simp) (by first | omega | (simp; omega)) rfl | exact row_newN _ _ (by first | rfl | simp) (by first | omega | (simp; omega)) rfl | exact row_newD _ (by first | rfl | simp) (by first | omega | (simp; omega)) rfl) (by simp)).mono ?_
        rintro e w14 ⟨rfl, rfl⟩
        replace hx := hx.alloc zz (.cells #[.int .i64 (firstE [inFault ps, inFault rs]), .int .i64 (spanFault ta 0 200000)] 29)
        replace hrs13 := hrs13.alloc (.cells #[.int .i64 (firstE [inFault ps, inFault rs]), .int .i64 (spanFault ta 0 200000)] 29)
        generalize w13.alloc (.cells #[.int .i64 (firstE [inFault ps, inFault rs]), .int .i64 (spanFault ta 0 200000)] 29) = w14 at *
        clear zz
        go_upto_if 108 with fail
        go_cut [15, 16] (fun s15 s16 wx => ∃ B' d', s15 = .int .i64 (spE ps rs ta) ∧ s16 = .slice B' (spR ps rs ta).length d' ∧ Row wx 0 2 A13 (spR ps rs ta).length (prs (spR ps rs ta)) ∧ Row wx 0 2 B' (spR ps rs ta).length (prs (spR ps rs ta)) ∧ Below w7.heap.size w7 wx)
        case first =>
          by_cases g0 : firstE [firstE [inFault ps, inFault rs], spanFault ta 0 200000] = 0
          · obtain ⟨i0, j0, s0, e1, e2⟩ := spE_both g0
            obtain ⟨i1, i2, i3⟩ := inFault_ok i0
            obtain ⟨j1, j2, j3⟩ := inFault_ok j0
            have HP := Lib.hid (inOk_pos i0)
            have HQ := Lib.hid (inOk_pos j0)
            obtain ⟨s1, s2⟩ := span_is s0
            have E1 := Lib.hid e1
            have E2 := Lib.hid e2
            obtain ⟨an, rfl⟩ := Int.eq_ofNat_of_zero_le s1
            rw [g0]
            clear g0 i0 j0 s0 i2 j2 e1 e2
            go_wp2_with fail
            refine (splicedOf_any _ _ _ _ _ _ ps rs an _ (hr.below hx) (hq.below hx) hl hl' HP.out HQ.out (by omega) (by omega) (by omega)).mono ?_
            rintro e w15 ⟨A15, c15, rfl, hrs15, hb⟩
            go_wp2_with fail
            go_meet
            rw [E1.out, E2.out, Int.toNat_natCast]
            rw [E2.out, Int.toNat_natCast] at hrs13
            exact ⟨A15, c15, rfl, rfl, (hrs13.below hb).weak (Nat.zero_le _), hrs15.weak (Nat.zero_le _), below_up hx hb⟩
          · obtain ⟨e1, e2⟩ := spE_or ps rs ta g0
            have g0' : (firstE [firstE [inFault ps, inFault rs], spanFault ta 0 200000] == 0) = false := by simpa using g0
            have E1 := Lib.hid e1
            have E2 := Lib.hid e2
            clear e1 e2 g0
            go_wp2_with fail
            go_meet
            rw [E1.out, E2.out]
            exact ⟨none, 0, rfl, rfl, Row.none_ _ _ _ _, Row.none_ _ _ _ _, hx⟩
        case rest =>
          clear hrs13 hx
          obtain ⟨B', d', rfl, rfl, hra, hrb, hx⟩ := hcut
          have hsl := spR_le ps rs ta
          go_wp2_with fail
          refine (equalP_any _ _ _ _ _ _ _ _ _ hra hrb (by omega) (by omega)).mono ?_
          rintro e w15 ⟨rfl, q, rfl⟩
          have hd : decide (spR ps rs ta = spR ps rs ta) = true := by simp
          rw [hd]
          replace hx := below_drewN' hx q
          clear hd hra hrb
          go_wp2_with fail
          refine (differ_any _ _ _ _ _ _ ps rs _ (hr.below hx) (hq.below hx) hl hl').mono ?_
          rintro e w16 ⟨rfl, hb⟩
          replace hx := below_up hx hb
          clear hb
          by_cases g0 : firstE [inFault ps, inFault rs] = 0
          · obtain ⟨i0, j0⟩ := two_ok g0
            obtain ⟨i1, i2, i3⟩ := inFault_ok i0
            obtain ⟨j1, j2, j3⟩ := inFault_ok j0
            have HP := Lib.hid (inOk_pos i0)
            have HQ := Lib.hid (inOk_pos j0)
            have e0 : dfE ps rs = 0 := g0
            rw [dfN_ok e0, dfB_ok e0, e0, g0]
            clear g0 i0 j0 i2 j2 e0
            go_wp2_with fail
            refine (differOf_any _ _ _ _ _ _ ps rs _ (hr.below hx) (hq.below hx) hl hl' HP.out HQ.out (by omega) (by omega)).mono ?_
            rintro e w17 ⟨rfl, hb⟩
            replace hx := below_up hx hb
            clear hb
            generalize diffM (unf ps) (unf rs) = dm at *
            rcases Int.lt_or_le dm 0 with g | g
            · have m1 : max dm 0 = 0 := by omega
              have d1 : decide (0 ≤ dm) = false := by simp; omega
              rw [m1]
              clear m1
              go_wp2_with fail
              refine (pressed_any _).mono ?_
              rintro e w18 ⟨rfl, hb⟩
              go_wp2_with fail
              go_ret
              exact ⟨rfl, hb7.trans ((below_up hx hb).mono hb7.size)⟩
            · have m1 : max dm 0 = dm := by omega
              have d1 : decide (0 ≤ dm) = true := by simp; omega
              rw [m1]
              clear m1
              go_wp2_with fail
              refine (pressed_any _).mono ?_
              rintro e w18 ⟨rfl, hb⟩
              go_wp2_with fail
              go_ret
              exact ⟨rfl, hb7.trans ((below_up hx hb).mono hb7.size)⟩
          · have e0 : ¬ dfE ps rs = 0 := g0
            have e1 : dfE ps rs = firstE [inFault ps, inFault rs] := rfl
            have g0' : (firstE [inFault ps, inFault rs] != 0) = true := by simpa using g0
            rw [dfN_bad e0, dfB_bad e0, e1]
            clear g0 e0 e1
            go_wp2_with fail
            refine (pressed_any _).mono ?_
            rintro e w18 ⟨rfl, hb⟩
            go_wp2_with fail
            go_ret
            exact ⟨rfl, hb7.trans ((below_up hx hb).mono hb7.size)⟩
end Go.Proofs.Ytgkjpcapoofphaa
