/- Texts of this seat, laid together: InpI Ck Blk RepF. -/
import Derived.Test.YtiigmolppcaplaaGreatBu02
/- The walks of Splice, Differ, DifferOf and slices.Clone over pieces. -/
namespace Go.Proofs.YtiigmolppcaplaaGreat
set_option linter.unusedVariables false
set_option linter.unusedSimpArgs false
open Go.RowKit

def spcE (ps qs : List (Int × Int)) (n : Int) : Int := if firstE [inFault ps, inFault qs] = 0 then (if spanFault n 0 200000 = 0 then sqE (unf ps) (unf qs) n.toNat else 1) else firstE [inFault ps, inFault qs]
def spR (ps qs : List (Int × Int)) (n : Int) : List (Int × Int) := if firstE [inFault ps, inFault qs] = 0 ∧ spanFault n 0 200000 = 0 then sqR (unf ps) (unf qs) n.toNat else []
theorem two_ok {a b : Int} (h : firstE [a, b] = 0) : a = 0 ∧ b = 0 := by
  rw [firstE_two] at h
  by_cases ha : a = 0
  · simp [ha] at h; exact ⟨ha, h⟩
  · simp [ha] at h
theorem spcE_bad {ps qs : List (Int × Int)} {n : Int} (h : ¬ firstE [inFault ps, inFault qs] = 0) : spcE ps qs n = firstE [inFault ps, inFault qs] := by simp only [spcE, h, if_false]
theorem spR_bad {ps qs : List (Int × Int)} {n : Int} (h : ¬ (firstE [inFault ps, inFault qs] = 0 ∧ spanFault n 0 200000 = 0)) : spR ps qs n = [] := by simp only [spR, h, if_false]
theorem spE_span {ps qs : List (Int × Int)} {n : Int} (h : firstE [inFault ps, inFault qs] = 0) (h' : spanFault n 0 200000 = 1) : spcE ps qs n = 1 := by simp [spcE, h, h']
theorem spcE_ok {ps qs : List (Int × Int)} {n : Int} (h : firstE [inFault ps, inFault qs] = 0) (h' : spanFault n 0 200000 = 0) : spcE ps qs n = sqE (unf ps) (unf qs) n.toNat := by simp [spcE, h, h']
theorem spR_ok {ps qs : List (Int × Int)} {n : Int} (h : firstE [inFault ps, inFault qs] = 0) (h' : spanFault n 0 200000 = 0) : spR ps qs n = sqR (unf ps) (unf qs) n.toNat := by simp [spR, h, h']
/-- The first frames, then 0 up to n, then the other input: put together as pieces. -/
theorem splice_unf (ps qs : List (Int × Int)) (n : Nat) (hx : (cutL (unf ps) 0 n).length ≤ n) : unf (foldM (cutL (unf ps) 0 n) ++ [(0, (n : Int) - psum (foldM (cutL (unf ps) 0 n)))] ++ qs) = spliced (unf ps) (unf qs) n := by
  have h1 : ∀ l : List Int, unf (foldM l) = l := by
    intro l
    suffices H : ∀ out : List (Int × Int), (∀ p ∈ out, 0 ≤ p.2) → unf (l.foldl (fun o h => fadd o h 1) out) = unf out ++ l from by simpa [unf, foldM] using H [] (by simp)
    induction l with
    | nil => intro out _; simp
    | cons x l ih =>
      intro out ho
      rw [List.foldl_cons, ih _ (fadd_mem (by omega) ho)]
      have : unf (fadd out x 1) = unf out ++ [x] := by
        unfold fadd
        simp only [show ¬ (1 : Int) = 0 by omega, if_false]
        cases hl : out.getLast? with
        | none => simp at hl; subst hl; simp [unf]
        | some q =>
          by_cases hq : q.1 = x
          · obtain ⟨r, rfl⟩ := List.getLast?_eq_some_iff.1 hl
            have hq2 := ho q (by simp)
            simp only [hq, if_true, List.dropLast_concat, unf_app]
            simp only [unf, List.flatMap_cons, List.flatMap_nil, List.append_nil, hq, List.append_assoc]
            congr 1
            rw [show (q.2 + 1).toNat = q.2.toNat + 1 by omega, List.replicate_succ']
          · simp [hq, unf]
      rw [this]; simp
  rw [unf_app, unf_app, h1, foldM_psum, spliced, firsts_eq]
  simp [unf, cutL]
  omega

set_option maxHeartbeats 1000000 in
theorem splice_any (A B : Option Addr) (c d lo lo' : Nat) (ps qs : List (Int × Int)) (n : Int) (w : World) (hr : Row w lo 2 A ps.length (prs ps)) (hr' : Row w lo' 2 B qs.length (prs qs)) (hl : ps.length ≤ 1000000000) (hl' : qs.length ≤ 1000000000) :
    Calls Tryz.prog 27 #[.slice A ps.length c, .slice B qs.length d, .int .i64 n] w fun e w' => ∃ A' c', e = .returned (.tuple #[.slice A' (spR ps qs n).length c', .int .i64 (spcE ps qs n)]) ∧ Row w' w.heap.size 2 A' (spR ps qs n).length (prs (spR ps qs n)) ∧ Below w.heap.size w w' := by
  go_enter Tryz.func27, Tryz.ntmps27
  go_wp2_with fail
  refine (checkInput_any _ _ _ ps _ hr hl).mono ?_
  rintro e w1 ⟨rfl, hb1⟩
  go_wp2_with fail
  refine (checkInput_any _ _ _ qs _ (hr'.below hb1) hl').mono ?_
  rintro e w2 ⟨rfl, hb2⟩
  have hb12 := below_up hb1 hb2
  have z12 := hb12.size
  go_wp2_with fail
  refine (first_any _ _ w.heap.size [inFault ps, inFault qs] _ (by first | exact row_new' _ (by first | rfl | simp) (by first | omega | (simp; omega)) rfl | exact row_newN _ _ (by first | rfl | simp) (by first | omega | (simp; omega)) rfl | exact row_newD _ (by first | rfl | simp) (by first | omega | (simp; omega)) rfl) (by simp)).mono ?_
  rintro e w3 ⟨rfl, rfl⟩
  by_cases h0 : firstE [inFault ps, inFault qs] = 0
  · obtain ⟨hp0, hq0⟩ := two_ok h0
    obtain ⟨p1, p2, p3⟩ := inFault_ok hp0
    obtain ⟨q1, q2, q3⟩ := inFault_ok hq0
    have HP := Lib.hid (show ∀ p ∈ ps, 0 ≤ p.2 from fun p hp => by have := p2 p hp; omega)
    have HQ := Lib.hid (show ∀ p ∈ qs, 0 ≤ p.2 from fun p hp => by have := q2 p hp; omega)
    have hup : (unf ps).length ≤ 200000 := by have := unf_len ps HP.out; omega
    have huq := unf_len qs HQ.out
    have H0 := Lib.hid h0
    have h0' : (firstE [inFault ps, inFault qs] != 0) = false := by simpa using h0
    rw [h0]
    clear h0 h0' p2 q2 hp0 hq0
    have hbx : Below w.heap.size w (w2.alloc (.cells #[.int .i64 (inFault ps), .int .i64 (inFault qs)] 30)) := hb12.alloc z12 _
    have hrx := (hr.below hb12).alloc (.cells #[.int .i64 (inFault ps), .int .i64 (inFault qs)] 30)
    have hrx' := (hr'.below hb12).alloc (.cells #[.int .i64 (inFault ps), .int .i64 (inFault qs)] 30)
    go_wp2_with fail
    refine (out_any _ _ _ _).mono ?_
    rintro e w3 ⟨rfl, rfl⟩
    by_cases h4 : 0 ≤ n ∧ n ≤ 200000
    · have h4' : (decide (n < 0) || decide (200000 < n)) = false := by simp; omega
      have H4 := Lib.hid (span_ok h4)
      rw [h4']
      obtain ⟨m, rfl⟩ := Int.eq_ofNat_of_zero_le h4.1
      have hm : m ≤ 200000 := by omega
      clear h4' h4
      have HU := Lib.hid (splice_unf ps qs m (by simp [cutL]; omega))
      have hcl := cutL_len (unf ps) 0 m
      have hfl := foldM_len (cutL (unf ps) 0 m)
      have HFP := Lib.hid (foldM_pos (cutL (unf ps) 0 m))
      have hfs := foldM_psum (cutL (unf ps) 0 m)
      have hfs2 : psum (foldM (cutL (unf ps) 0 m)) ≤ m := by rw [hfs]; simp [cutL]; omega
      have hfs3 : 0 ≤ psum (foldM (cutL (unf ps) 0 m)) := by rw [hfs]; omega
      clear hfs
      go_wp2_with fail
      generalize w2.alloc (.cells #[.int .i64 (inFault ps), .int .i64 (inFault qs)] 30) = w3 at *
      refine (part_any _ _ _ ps 0 m _ hrx (by omega) HP.out (by omega) (by omega) (by omega)).mono ?_
      rintro e w4 ⟨A4, c4, rfl, hown4, hb4⟩
      have hown4' := own_weak hown4 hbx.size
      have hb4x := below_up hbx hb4
      have hrq4 := hrx'.below hb4
      clear hown4 hbx hrx hrx' hb4 hb1 hb2 hb12
      generalize hP : foldM (cutL (unf ps) 0 m) = P at *
      have HPX := Lib.hid hP
      clear hP
      go_wp2_with fail
      refine (frames_any _ _ _ P _ (Row.of_own hown4') (by omega) HFP.out (by omega)).mono ?_
      rintro e w5 ⟨rfl, hb5⟩
      have hown5 := own_keep hown4' hb5
      have hb5x := below_up hb4x hb5
      have hrq5 := hrq4.below hb5
      have z5 := hb5x.size
      clear hown4' hb4x hrq4 hb5
      go_wp2_with (at_builtin; go_must (refine wpList_app (lo := w.heap.size) (base := w.heap.size) (n := P.length) (xs := prs P) _ _ rfl _ _ ty_prs rfl (by repeat (first | exact hown5 | refine World.ownsRow.alloc ?_ _ | refine own_drewN ?_ _ | refine World.ownsRow.drew ?_)) rfl (by first | exact row_new' _ (by first | rfl | simp) (by first | omega | (simp; omega)) rfl | exact row_newN _ _ (by first | rfl | simp) (by first | omega | (simp; omega)) rfl | exact row_newD _ (by first | rfl | simp) (by first | omega | (simp; omega)) rfl) rfl rfl (by first | omega | decide) (by first | omega | decide) (by first | omega | (simp; omega)) ?_))
      intro A6 c6 w6 hown6 hg6 _
      have hb6x : Below w.heap.size w w6 := below_app hown5 (by repeat (first | exact hb5x | refine Below.alloc ?_ (by first | omega | (simp; omega)) _ | refine below_drewN' ?_ _ | refine Below.drew ?_)) hg6 (Nat.le_refl _) (by simp; omega)
      have z6 := hb6x.size
      clear hown5 hg6 hb5x hrq5
      go_wp2_with (at_builtin; go_must (refine wpList_app _ _ rfl _ _ ty_prs rfl hown6 rfl (hr'.below hb6x) rfl (prs_all _) (by omega) (by omega) z6 ?_))
      intro A7 c7 w7 hown7 hg7 _
      have hb7x : Below w.heap.size w w7 := below_app hown6 hb6x hg7 (Nat.le_refl _) z6
      have hL : ∃ L : List (Int × Int), L = P ++ [(0, (m : Int) - psum P)] ++ qs := ⟨_, rfl⟩
      obtain ⟨L, hL⟩ := hL
      have HLN : Hid (P.length + 1 + qs.length = L.length) := Lib.hid (by rw [hL]; simp; omega)
      have hown8 : w7.ownsRow w.heap.size 68 2 (.slice A7 L.length c7) L.length (prs L) := by
        rw [← HLN.out, hL, prs_app, prs_app]; exact own_cast (by simp [prs]) hown7
      have hLl : L.length ≤ 1000000 := by rw [← HLN.out]; omega
      have HLP : Hid (∀ p ∈ L, 0 ≤ p.2) := Lib.hid (by
        rw [hL]
        intro p hp
        simp only [List.mem_append, List.mem_singleton] at hp
        rcases hp with (h1 | h1) | h1
        · exact HFP.out p h1
        · subst h1; simp; omega
        · exact HQ.out p h1)
      have hLs : psum L = (m : Int) + psum qs := by rw [hL, psum_app, psum_app]; simp [psum]; omega
      have HLU : Hid (foldM (spliced (unf ps) (unf qs) m) = tidyM L) := Lib.hid (by
        rw [← fold_unf L HLP.out, hL, ← HU.out])
      have htl := tidyM_len L
      have HTP := Lib.hid (tidyM_mem L HLP.out)
      have hts := tidyM_psum L
      rw [HLN.out]
      clear hown7 hown6 hg7 hL HLN HU HPX HFP hb6x
      go_wp2_with fail
      refine (tidy_any _ _ _ L _ (Row.of_own hown8) (by omega) HLP.out (by omega)).mono ?_
      rintro e w8 ⟨A8, c8, rfl, hown9, hb8⟩
      have hb8x := below_up hb7x hb8
      have hown9' := own_weak hown9 hb7x.size
      clear hown8 hown9 hb7x hb8
      generalize tidyM L = T at *
      go_wp2_with fail
      refine (frames_any _ _ _ T _ (Row.of_own hown9') (by omega) HTP.out (by omega)).mono ?_
      rintro e w9 ⟨rfl, hb9⟩
      have hb9x := below_up hb8x hb9
      have hrow9 := (Row.of_own hown9').below hb9
      have hts2 : psum T = (m : Int) + ((unf qs).length : Int) := by omega
      have HTS := Lib.hid hts2
      clear hown9' hb9 hb8x
      by_cases h5 : 200000 < m + (unf qs).length
      · have HE := Lib.hid (sqE_long (xs := unf ps) h5)
        have h5' : 200000 < psum T := by omega
        clear hts hts2 hLs
        go_wp2_with fail
        go_ret2
        rw [spR_ok H0.out H4.out, spcE_ok H0.out H4.out, Int.toNat_natCast, sqR_bad HE.out, HE.out]
        exact ⟨none, 0, rfl, Row.none_ _ _ _ _, hb9x⟩
      · have h5' : ¬ 200000 < psum T := by omega
        have h5d : decide (200000 < psum T) = false := by simpa using h5'
        clear hts hts2 hLs
        by_cases h6 : 5000 < T.length
        · have HE := Lib.hid (sqE_many (xs := unf ps) (ys := unf qs) (n := m) (by rw [HLU.out]; exact h6))
          go_wp2_with fail
          go_ret2
          rw [spR_ok H0.out H4.out, spcE_ok H0.out H4.out, Int.toNat_natCast, sqR_bad HE.out, HE.out]
          exact ⟨none, 0, rfl, Row.none_ _ _ _ _, hb9x⟩
        · have HE := Lib.hid (sqE_ok (xs := unf ps) (ys := unf qs) (n := m) h5 (by rw [HLU.out]; exact h6))
          go_wp2_with fail
          go_ret2
          rw [spR_ok H0.out H4.out, spcE_ok H0.out H4.out, Int.toNat_natCast, sqR_ok HE.out, HE.out, HLU.out]
          exact ⟨A8, c8, rfl, hrow9, hb9x⟩
    · have h4' : (decide (n < 0) || decide (200000 < n)) = true := by simp; omega
      have H4 := Lib.hid (span_bad h4)
      rw [h4']
      clear h4' h4
      go_wp2_with fail
      go_ret2
      rw [spR_bad (by rw [H4.out]; omega), spE_span H0.out H4.out]
      exact ⟨none, 0, rfl, Row.none_ _ _ _ _, hbx⟩
  · have h0' : (firstE [inFault ps, inFault qs] != 0) = true := by simpa using h0
    have H0 := Lib.hid h0
    clear h0
    go_wp2_with fail
    go_ret2
    rw [spR_bad (fun h => H0.out h.1), spcE_bad H0.out]
    exact ⟨none, 0, rfl, Row.none_ _ _ _ _, hb12.alloc z12 _⟩

theorem ret3_is {a b c x y z : Value} (h1 : a = x) (h2 : b = y) (h3 : c = z) : Ending.returned (.tuple #[a, b, c]) = .returned (.tuple #[x, y, z]) := by rw [h1, h2, h3]

/-- What Differ hands back. -/
def dfE (ps qs : List (Int × Int)) : Int := firstE [inFault ps, inFault qs]
def dfN (ps qs : List (Int × Int)) : Int := if dfE ps qs = 0 then max (diffM (unf ps) (unf qs)) 0 else 0
def dfB (ps qs : List (Int × Int)) : Bool := decide (dfE ps qs = 0) && decide (0 ≤ diffM (unf ps) (unf qs))
theorem dfN_ok {ps qs : List (Int × Int)} (h : dfE ps qs = 0) : dfN ps qs = max (diffM (unf ps) (unf qs)) 0 := by simp [dfN, h]
theorem dfN_bad {ps qs : List (Int × Int)} (h : ¬ dfE ps qs = 0) : dfN ps qs = 0 := by simp [dfN, h]
theorem dfB_ok {ps qs : List (Int × Int)} (h : dfE ps qs = 0) : dfB ps qs = decide (0 ≤ diffM (unf ps) (unf qs)) := by simp [dfB, h]
theorem dfB_bad {ps qs : List (Int × Int)} (h : ¬ dfE ps qs = 0) : dfB ps qs = false := by simp [dfB, h]
theorem heldL_u8 {xs : List Int} (h : ∀ x ∈ xs, 0 ≤ x ∧ x ≤ 255) (k : Nat) : 0 ≤ heldL xs k ∧ heldL xs k ≤ 255 := by
  rcases Nat.lt_or_ge k xs.length with hk | hk
  · rw [heldL_at xs k hk]; exact h _ (List.getElem_mem _)
  · rw [heldL_out xs k (by omega)]; omega

set_option maxHeartbeats 1000000 in
theorem differ_any (A B : Option Addr) (c d lo lo' : Nat) (ps qs : List (Int × Int)) (w : World) (hr : Row w lo 2 A ps.length (prs ps)) (hr' : Row w lo' 2 B qs.length (prs qs)) (hl : ps.length ≤ 1000000000) (hl' : qs.length ≤ 1000000000) :
    Calls Tryz.prog 30 #[.slice A ps.length c, .slice B qs.length d] w fun e w' => e = .returned (.tuple #[.int .i64 (dfN ps qs), .bool (dfB ps qs), .int .i64 (dfE ps qs)]) ∧ Below w.heap.size w w' := by
  go_enter Tryz.func30, Tryz.ntmps30
  go_wp2_with fail
  refine (checkInput_any _ _ _ ps _ hr hl).mono ?_
  rintro e w1 ⟨rfl, hb1⟩
  go_wp2_with fail
  refine (checkInput_any _ _ _ qs _ (hr'.below hb1) hl').mono ?_
  rintro e w2 ⟨rfl, hb2⟩
  have hb12 := below_up hb1 hb2
  have z12 := hb12.size
  go_wp2_with fail
  refine (first_any _ _ w.heap.size [inFault ps, inFault qs] _ (by first | exact row_new' _ (by first | rfl | simp) (by first | omega | (simp; omega)) rfl | exact row_newN _ _ (by first | rfl | simp) (by first | omega | (simp; omega)) rfl | exact row_newD _ (by first | rfl | simp) (by first | omega | (simp; omega)) rfl) (by simp)).mono ?_
  rintro e w3 ⟨rfl, rfl⟩
  have HD : Hid (dfE ps qs = firstE [inFault ps, inFault qs]) := Lib.hid rfl
  by_cases h0 : firstE [inFault ps, inFault qs] = 0
  · obtain ⟨hp0, hq0⟩ := two_ok h0
    obtain ⟨p1, p2, p3⟩ := inFault_ok hp0
    obtain ⟨q1, q2, q3⟩ := inFault_ok hq0
    have HP := Lib.hid (show ∀ p ∈ ps, 0 ≤ p.2 from fun p hp => by have := p2 p hp; omega)
    have HQ := Lib.hid (show ∀ p ∈ qs, 0 ≤ p.2 from fun p hp => by have := q2 p hp; omega)
    have HPV := Lib.hid (show ∀ p ∈ ps, 0 ≤ p.1 ∧ p.1 ≤ 255 from fun p hp => by have := p2 p hp; omega)
    have HQV := Lib.hid (show ∀ p ∈ qs, 0 ≤ p.1 ∧ p.1 ≤ 255 from fun p hp => by have := q2 p hp; omega)
    have hup : (unf ps).length ≤ 200000 := by have := unf_len ps HP.out; omega
    have huq : (unf qs).length ≤ 200000 := by have := unf_len qs HQ.out; omega
    have HXV := Lib.hid (unf_mem (P := fun x => 0 ≤ x ∧ x ≤ 255) HPV.out)
    have HYV := Lib.hid (unf_mem (P := fun x => 0 ≤ x ∧ x ≤ 255) HQV.out)
    have H0 : Hid (dfE ps qs = 0) := Lib.hid (by rw [HD.out, h0])
    have h0' : (firstE [inFault ps, inFault qs] != 0) = false := by simpa using h0
    rw [h0]
    clear h0 h0' p2 q2 hp0 hq0 HD
    have hbx : Below w.heap.size w (w2.alloc (.cells #[.int .i64 (inFault ps), .int .i64 (inFault qs)] 30)) := hb12.alloc z12 _
    go_wp2_with fail
    generalize w2.alloc (.cells #[.int .i64 (inFault ps), .int .i64 (inFault qs)] 30) = w3 at *
    refine (spread_any _ _ _ ps _ (hr.below hbx) hl HP.out HPV.out (by omega)).mono ?_
    rintro e w4 ⟨A4, c4, rfl, hown4, hb4⟩
    have hb4x := below_up hbx hb4
    go_wp2_with fail
    refine (spread_any _ _ _ qs _ (hr'.below hb4x) hl' HQ.out HQV.out (by omega)).mono ?_
    rintro e w5 ⟨A5, c5, rfl, hown5, hb5⟩
    have hb5x := below_up hb4x hb5
    have hrow4 := (Row.of_own hown4).below hb5
    have hrow5 := Row.of_own hown5
    clear hown4 hown5 hb4x hb5 hbx hb4 hb12 hb1 hb2
    generalize hxs : unf ps = xs at *
    generalize hys : unf qs = ys at *
    have HXS := Lib.hid hxs
    have HYS := Lib.hid hys
    clear hxs hys
    rcases Nat.lt_or_ge xs.length ys.length with hxy | hxy
    · have hxy' : (xs.length : Int) < (ys.length : Int) := by omega
      go_wp2_with fail
      go_loop [10, 11, 12, 31] (fun _ _ _ i => ∃ (k : Nat), k ≤ ys.length ∧ i = .int .i64 k ∧ Hid (∀ i : Nat, i < k → heldL xs (i : Int) = heldL ys (i : Int))) (fun _ _ _ i => ys.length - (intOf i).toNat)
      case atStart => exact ⟨0, Nat.zero_le _, rfl, Lib.hid (fun i hi => absurd hi (by omega))⟩
      case round =>
        obtain ⟨k, hk, rfl, hno⟩ := hrel
        by_cases hlt : k < ys.length
        · obtain ⟨bm, offm, rfl, _, _, ccm⟩ := hrow5.u8_at hlt
          have HKY := Lib.hid (heldL_at ys k hlt)
          have fin : heldL xs (k : Int) = heldL ys (k : Int) → ∀ i : Nat, i < k + 1 → heldL xs (i : Int) = heldL ys (i : Int) := fun h i hi => by
            rcases Nat.lt_or_ge i k with h1 | h1
            · exact hno.out i h1
            · have : i = k := by omega
              subst this; exact h
          have hit : heldL xs (k : Int) ≠ heldL ys (k : Int) → diffM xs ys = k := fun h => diffM_hit xs ys k (by omega) hno.out h
          have FIN := Lib.hid fin
          have HIT := Lib.hid hit
          clear fin hit
          by_cases ho : k < xs.length
          · obtain ⟨bo, offo, rfl, _, _, cco⟩ := hrow4.u8_at ho
            have HKX := Lib.hid (heldL_at xs k ho)
            by_cases he : xs[k] = ys[k]
            · have he' : (xs[k] != ys[k]) = false := by simpa using he
              have HN := Lib.hid (FIN.out (by rw [HKX.out, HKY.out, he]))
              clear he
              go_wp2_with fail
              go_round
              case rel => exact ⟨k + 1, by omega, by go_num, HN⟩
              case measure => simp [intOf]; omega
            · have he' : (xs[k] != ys[k]) = true := by simpa using he
              have HN := Lib.hid (HIT.out (by rw [HKX.out, HKY.out]; exact he))
              clear he
              go_wp2_with fail
              go_ret3
              exact ⟨ret3_is (by rw [dfN_ok H0.out, HXS.out, HYS.out, HN.out]; simp [Int.max_eq_left]) (by rw [dfB_ok H0.out, HXS.out, HYS.out, HN.out]; simp) (by rw [H0.out]; rfl), hb5x⟩
          · have HKX := Lib.hid (heldL_out xs k (by omega))
            by_cases he : ys[k] = 0
            · have he' : (0 != ys[k]) = false := by simp [he]
              have HN := Lib.hid (FIN.out (by rw [HKX.out, HKY.out, he]))
              clear he
              go_wp2_with fail
              go_round
              case rel => exact ⟨k + 1, by omega, by go_num, HN⟩
              case measure => simp [intOf]; omega
            · have he' : (0 != ys[k]) = true := by simpa using fun h : 0 = ys[k] => he h.symm
              have HN := Lib.hid (HIT.out (by rw [HKX.out, HKY.out]; exact fun h => he h.symm))
              clear he
              go_wp2_with fail
              go_ret3
              exact ⟨ret3_is (by rw [dfN_ok H0.out, HXS.out, HYS.out, HN.out]; simp [Int.max_eq_left]) (by rw [dfB_ok H0.out, HXS.out, HYS.out, HN.out]; simp) (by rw [H0.out]; rfl), hb5x⟩
        · have HN := Lib.hid (diffM_none xs ys (fun i hi => hno.out i (by omega)))
          go_wp2_with fail
          go_ret3
          exact ⟨ret3_is (by rw [dfN_ok H0.out, HXS.out, HYS.out, HN.out]; rfl) (by rw [dfB_ok H0.out, HXS.out, HYS.out, HN.out]; rfl) (by rw [H0.out]; rfl), hb5x⟩
    · have hxy' : ¬ ((xs.length : Int) < (ys.length : Int)) := by omega
      go_wp2_with fail
      go_loop [10, 11, 12, 31] (fun _ _ _ i => ∃ (k : Nat), k ≤ xs.length ∧ i = .int .i64 k ∧ Hid (∀ i : Nat, i < k → heldL xs (i : Int) = heldL ys (i : Int))) (fun _ _ _ i => xs.length - (intOf i).toNat)
      case atStart => exact ⟨0, Nat.zero_le _, rfl, Lib.hid (fun i hi => absurd hi (by omega))⟩
      case round =>
        obtain ⟨k, hk, rfl, hno⟩ := hrel
        by_cases hlt : k < xs.length
        · obtain ⟨bm, offm, rfl, _, _, ccm⟩ := hrow4.u8_at hlt
          have HKX := Lib.hid (heldL_at xs k hlt)
          have fin : heldL xs (k : Int) = heldL ys (k : Int) → ∀ i : Nat, i < k + 1 → heldL xs (i : Int) = heldL ys (i : Int) := fun h i hi => by
            rcases Nat.lt_or_ge i k with h1 | h1
            · exact hno.out i h1
            · have : i = k := by omega
              subst this; exact h
          have hit : heldL xs (k : Int) ≠ heldL ys (k : Int) → diffM xs ys = k := fun h => diffM_hit xs ys k (by omega) hno.out h
          have FIN := Lib.hid fin
          have HIT := Lib.hid hit
          clear fin hit
          by_cases ho : k < ys.length
          · obtain ⟨bo, offo, rfl, _, _, cco⟩ := hrow5.u8_at ho
            have HKY := Lib.hid (heldL_at ys k ho)
            by_cases he : xs[k] = ys[k]
            · have he' : (xs[k] != ys[k]) = false := by simpa using he
              have HN := Lib.hid (FIN.out (by rw [HKX.out, HKY.out, he]))
              clear he
              go_wp2_with fail
              go_round
              case rel => exact ⟨k + 1, by omega, by go_num, HN⟩
              case measure => simp [intOf]; omega
            · have he' : (xs[k] != ys[k]) = true := by simpa using he
              have HN := Lib.hid (HIT.out (by rw [HKX.out, HKY.out]; exact he))
              clear he
              go_wp2_with fail
              go_ret3
              exact ⟨ret3_is (by rw [dfN_ok H0.out, HXS.out, HYS.out, HN.out]; simp [Int.max_eq_left]) (by rw [dfB_ok H0.out, HXS.out, HYS.out, HN.out]; simp) (by rw [H0.out]; rfl), hb5x⟩
          · have HKY := Lib.hid (heldL_out ys k (by omega))
            by_cases he : xs[k] = 0
            · have he' : (xs[k] != 0) = false := by simpa using he
              have HN := Lib.hid (FIN.out (by rw [HKX.out, HKY.out, he]))
              clear he
              go_wp2_with fail
              go_round
              case rel => exact ⟨k + 1, by omega, by go_num, HN⟩
              case measure => simp [intOf]; omega
            · have he' : (xs[k] != 0) = true := by simpa using he
              have HN := Lib.hid (HIT.out (by rw [HKX.out, HKY.out]; exact he))
              clear he
              go_wp2_with fail
              go_ret3
              exact ⟨ret3_is (by rw [dfN_ok H0.out, HXS.out, HYS.out, HN.out]; simp [Int.max_eq_left]) (by rw [dfB_ok H0.out, HXS.out, HYS.out, HN.out]; simp) (by rw [H0.out]; rfl), hb5x⟩
        · have HN := Lib.hid (diffM_none xs ys (fun i hi => hno.out i (by omega)))
          go_wp2_with fail
          go_ret3
          exact ⟨ret3_is (by rw [dfN_ok H0.out, HXS.out, HYS.out, HN.out]; rfl) (by rw [dfB_ok H0.out, HXS.out, HYS.out, HN.out]; rfl) (by rw [H0.out]; rfl), hb5x⟩
  · have h0' : (firstE [inFault ps, inFault qs] != 0) = true := by simpa using h0
    have H0 : Hid (¬ dfE ps qs = 0) := Lib.hid (by rw [HD.out]; exact h0)
    clear h0
    go_wp2_with fail
    go_ret3
    exact ⟨ret3_is (by rw [dfN_bad H0.out]; rfl) (by rw [dfB_bad H0.out]; rfl) (by rw [HD.out]; rfl), hb12.alloc z12 _⟩
end Go.Proofs.YtiigmolppcaplaaGreat
/- Plain laws of CutsKeepFrames: an input that is cut in two and spliced again is the same. No program in sight. -/
namespace Go.Proofs.YtiigmolppcaplaaGreat
set_option linter.unusedVariables false
set_option linter.unusedSimpArgs false

theorem unf_foldM (l : List Int) : unf (foldM l) = l := by
  suffices H : ∀ out : List (Int × Int), (∀ p ∈ out, 0 ≤ p.2) → unf (l.foldl (fun o h => fadd o h 1) out) = unf out ++ l from by simpa [unf, foldM] using H [] (by simp)
  induction l with
  | nil => intro out _; simp
  | cons x l ih =>
    intro out ho
    rw [List.foldl_cons, ih _ (fadd_mem (by omega) ho)]
    have : unf (fadd out x 1) = unf out ++ [x] := by
      unfold fadd
      simp only [show ¬ (1 : Int) = 0 by omega, if_false]
      cases hl : out.getLast? with
      | none => simp at hl; subst hl; simp [unf]
      | some q =>
        by_cases hq : q.1 = x
        · obtain ⟨r, rfl⟩ := List.getLast?_eq_some_iff.1 hl
          have hq2 := ho q (by simp)
          simp only [hq, if_true, List.dropLast_concat, unf_app]
          simp only [unf, List.flatMap_cons, List.flatMap_nil, List.append_nil, hq, List.append_assoc]
          congr 1
          rw [show (q.2 + 1).toNat = q.2.toNat + 1 by omega, List.replicate_succ']
        · simp [hq, unf]
    rw [this]; simp
/-- Each piece of what is folded holds what a frame held, for a frame at least. -/
theorem foldM_mem (l : List Int) (P : Int → Prop) (h : ∀ x ∈ l, P x) : ∀ p ∈ foldM l, P p.1 ∧ 1 ≤ p.2 := by
  suffices H : ∀ out : List (Int × Int), (∀ p ∈ out, P p.1 ∧ 1 ≤ p.2) → ∀ p ∈ l.foldl (fun o h => fadd o h 1) out, P p.1 ∧ 1 ≤ p.2 from H [] (by simp)
  induction l with
  | nil => intro out ho; exact ho
  | cons x l ih =>
    intro out ho
    rw [List.foldl_cons]
    refine ih (fun y hy => h y (by simp [hy])) _ ?_
    intro p hp
    unfold fadd at hp
    simp only [show ¬ (1 : Int) = 0 by omega, if_false] at hp
    cases hl : out.getLast? with
    | none => rw [hl] at hp; simp at hl; subst hl; simp at hp; subst hp; exact ⟨h x (by simp), by simp⟩
    | some q =>
      rw [hl] at hp
      have hq : q ∈ out := List.mem_of_getLast? hl
      simp only at hp
      split at hp
      · rcases List.mem_append.1 hp with hp | hp
        · exact ho p (List.dropLast_subset _ hp)
        · simp at hp; subst hp; have := ho q hq; exact ⟨this.1, by simp; omega⟩
      · rcases List.mem_append.1 hp with hp | hp
        · exact ho p hp
        · simp at hp; subst hp; exact ⟨h x (by simp), by simp⟩
theorem foldM_ok (l : List Int) (h : ∀ x ∈ l, 0 ≤ x ∧ x ≤ 63) (hl : l.length ≤ 5000) : inFault (foldM l) = 0 := by
  have h1 := foldM_len l
  have h2 := foldM_psum l
  have h3 := foldM_mem l (fun x => 0 ≤ x ∧ x ≤ 63) h
  have h4 := mem_le_psum (foldM l) (fun p hp => by have := (h3 p hp).2; omega)
  rw [inFault_good _ (by omega)]
  · rw [if_neg (by omega)]
  · intro p hp
    have a := h3 p hp
    have b := h4 p hp
    rw [vld_iff]
    exact ⟨a.1.1, a.1.2, a.2, by omega⟩
theorem pieces_ok (ps : List (Int × Int)) (h : ∀ p ∈ ps, 0 ≤ p.1 ∧ p.1 ≤ 63 ∧ 1 ≤ p.2 ∧ p.2 ≤ 20) (hl : ps.length ≤ 8) : inFault ps = 0 ∧ (unf ps).length ≤ 160 ∧ ∀ x ∈ unf ps, 0 ≤ x ∧ x ≤ 63 := by
  have h1 := psum_le ps 20 (by omega) (fun p hp => by have := h p hp; omega)
  have h2 := unf_len ps (fun p hp => by have := h p hp; omega)
  refine ⟨?_, by omega, ?_⟩
  · rw [inFault_good _ (by omega)]
    · rw [if_neg (by omega)]
    · intro p hp
      have := h p hp
      rw [vld_iff]
      exact ⟨by omega, by omega, by omega, by omega⟩
  · intro x hx
    obtain ⟨p, hp, hq⟩ := List.mem_flatMap.1 hx
    rw [List.eq_of_mem_replicate hq]
    have := h p hp
    omega
/-- What the law finds, all at once. -/
structure Kept (ps : List (Int × Int)) (at_ : Nat) : Prop where
  fa : inFault ps = 0
  a1 : cutE ps 0 at_ = 0
  b1 : cutE ps at_ (unf ps).length = 0
  s1 : spcE (cutR ps 0 at_) (cutR ps at_ (unf ps).length) at_ = 0
  s2 : spR (cutR ps 0 at_) (cutR ps at_ (unf ps).length) at_ = tidyR ps
  d1 : dfE ps (tidyR ps) = 0
  d2 : dfB ps (tidyR ps) = false
  la : (cutR ps 0 at_).length ≤ 160
  lb : (cutR ps at_ (unf ps).length).length ≤ 160
  lt : (tidyR ps).length ≤ 160
theorem kept (ps : List (Int × Int)) (at_ : Nat) (h : ∀ p ∈ ps, 0 ≤ p.1 ∧ p.1 ≤ 63 ∧ 1 ≤ p.2 ∧ p.2 ≤ 20) (hl : ps.length ≤ 8) (hat : at_ ≤ (unf ps).length) : Kept ps at_ := by
  obtain ⟨f0, f1, f2⟩ := pieces_ok ps h hl
  have c1 : cutOk 0 at_ = true := by rw [cutOk_iff]; omega
  have c2 : cutOk at_ (unf ps).length = true := by rw [cutOk_iff]; omega
  have r1 : cutR ps 0 at_ = foldM ((unf ps).take at_) := by rw [cutR_ok f0 c1]; simp [cutL]
  have r2 : cutR ps at_ (unf ps).length = foldM ((unf ps).drop at_) := by rw [cutR_ok f0 c2]; simp [cutL]
  have t1 : tidyR ps = foldM (unf ps) := tidyR_ok f0
  have l1 := foldM_len ((unf ps).take at_)
  have l2 := foldM_len ((unf ps).drop at_)
  have l3 := foldM_len (unf ps)
  have fa : inFault (cutR ps 0 at_) = 0 := by rw [r1]; exact foldM_ok _ (fun x hx => f2 x (List.mem_of_mem_take hx)) (by simp; omega)
  have fb : inFault (cutR ps at_ (unf ps).length) = 0 := by rw [r2]; exact foldM_ok _ (fun x hx => f2 x (List.mem_of_mem_drop hx)) (by simp; omega)
  have ft : inFault (tidyR ps) = 0 := by rw [t1]; exact foldM_ok _ f2 (by omega)
  have two : firstE [inFault (cutR ps 0 at_), inFault (cutR ps at_ (unf ps).length)] = 0 := by rw [fa, fb]; rfl
  have sp : spanFault at_ 0 200000 = 0 := span_ok (by omega)
  have e1 : spliced (unf (cutR ps 0 at_)) (unf (cutR ps at_ (unf ps).length)) at_ = unf ps := by
    rw [r1, r2, unf_foldM, unf_foldM, spliced, firsts_eq]
    have z : at_ - ((unf ps).take at_).length = 0 := by simp; omega
    rw [z]
    simp only [List.replicate_zero, List.append_nil]
    rw [List.take_take, Nat.min_self, List.take_append_drop]
  have s0 : sqE (unf (cutR ps 0 at_)) (unf (cutR ps at_ (unf ps).length)) at_ = 0 := by
    refine sqE_ok ?_ ?_
    · rw [r2, unf_foldM]; simp; omega
    · rw [e1]; omega
  refine ⟨f0, ?_, ?_, ?_, ?_, ?_, ?_, by rw [r1]; simp at l1; omega, by rw [r2]; simp at l2; omega, by rw [t1]; omega⟩
  · simp [cutE, f0, c1]
  · simp [cutE, f0, c2]
  · rw [spcE_ok two sp]; simpa using s0
  · rw [spR_ok two sp, Int.toNat_natCast, sqR_ok s0, e1, t1]
  · unfold dfE; rw [f0, ft]; rfl
  · have hd : dfE ps (tidyR ps) = 0 := by unfold dfE; rw [f0, ft]; rfl
    rw [dfB_ok hd, t1, unf_foldM, diffM_none _ _ (fun i _ => rfl)]
    rfl
end Go.Proofs.YtiigmolppcaplaaGreat
/- Small laws of a block that is known whole. -/
namespace Go.Proofs.YtiigmolppcaplaaGreat
set_option linter.unusedVariables false
set_option linter.unusedSimpArgs false
open Go.RowKit

theorem Blk.thaw {w : World} {g : Nat} {t : TypeId} {cs : Array Value} (h : Blk w g t cs) (i : Nat) : w.frozen? ⟨g, i, none⟩ = false := by
  have h' : w.heap[g]? = some (.cells cs t (0, 0)) := h
  simp [World.frozen?, h']
theorem Blk.poke {w : World} {g : Nat} {t : TypeId} {cs : Array Value} (h : Blk w g t cs) (i : Nat) (u : Value) : Blk (w.setCell ⟨g, i, none⟩ u) g t (cs.setIfInBounds i u) := by
  have h' : w.heap[g]? = some (.cells cs t (0, 0)) := h
  unfold Blk
  simp [World.setCell, Array.getElem?_modify, h']
theorem Blk.past {w : World} {g : Nat} {t : TypeId} {cs : Array Value} (h : Blk w g t cs) (k i : Nat) (u : Value) (hne : g ≠ k) : Blk (w.setCell ⟨k, i, none⟩ u) g t cs := by
  have h' : w.heap[g]? = some (.cells cs t (0, 0)) := h
  unfold Blk
  have hne' : ¬ k = g := fun e => hne e.symm
  simp [World.setCell, Array.getElem?_modify, h', hne']
/-- A row of the call's own stays where another block is written to. -/
theorem own_past {w : World} {base size n g : Nat} {e t : TypeId} {v : Value} {xs : List Value} {cs : Array Value} (h : w.ownsRow base e size v n xs) (hb : Blk w g t cs) (hne : e ≠ t) (i : Nat) (u : Value) : (w.setCell ⟨g, i, none⟩ u).ownsRow base e size v n xs := by
  refine ⟨h.1, ?_⟩
  rcases h.2 with h0 | ⟨g', cap, cur, hv, hg, hh, h3⟩
  · exact .inl h0
  · have hgg : ¬ g = g' := by
      intro e1
      subst e1
      have h' : w.heap[g]? = some (.cells cs t (0, 0)) := hb
      rw [h'] at hh
      injection hh with hh
      injection hh with _ h2
      exact hne h2.symm
    exact .inr ⟨g', cap, cur, hv, hg, by simp [World.setCell, Array.getElem?_modify, hgg, hh], h3⟩
end Go.Proofs.YtiigmolppcaplaaGreat
/- copy at elements of more than one cell; the walk of slices.Repeat at one pair of numbers. -/
namespace Go.Proofs.YtiigmolppcaplaaGreat
set_option linter.unusedVariables false
set_option linter.unusedSimpArgs false
open Go.RowKit

theorem run_copy_rowN {P : Program} (w : World) (dT sT ty elem : TypeId) (g o dLen dCap : Nat) (a : Addr) (sLen sCap : Nat) (cur : Array Value) (t : TypeId) (cs : List Value) (size m : Nat)
    (hu : P.underlying dT = some (.slice elem)) (hs : (P.info? elem).map (·.size) = some size)
    (hg : w.heap[g]? = some (.cells cur t (0, 0))) (hm : m = Nat.min sLen dLen) (hn : cs.length = m * size)
    (hsrc : ∀ j v, cs[j]? = some v → w.cell? (a.add j) = some v) (hfit : o + cs.length ≤ cur.size) (h1 : ∀ v ∈ cs, v.oneCell' = true) :
    (Builtin.copy_ #[dT, sT] ty #[.slice (some ⟨g, o, none⟩) dLen dCap, .slice (some a) sLen sCap]).run P w =
      .ok (goInt m) (w.setRow g (cur.toList.take o ++ cs ++ cur.toList.drop (o + cs.length)).toArray) := by
  have hl := run_loadCells_list (P := P) w a cs hsrc
  have hst := run_storeCells_at P g o t cs 0 cur w hg (by simpa using hfit) h1
  cases hq : P.info? elem with
  | none => simp [hq] at hs
  | some i =>
    have hi : i.size = size := by simpa [hq] using hs
    rw [hn] at hl
    subst hm
    simp [Builtin.copy_, run_underlying hu, Builtin.lenOf, Builtin.firstCells, sizeOf, typeInfo, hq, hi, hl, hst]

theorem wpList_copyN {P : Program} {w : World} {ops : Array Oper} {rest : List Oper} {o : Oper} {a : Act} {Q : Exit → Act → World → Prop} (hgd : o.guard = none) (d s : Operand) (dT sT : TypeId)
    (ho : o.op = .call { callee := .builtin .copy, args := #[d, s], argTypes := #[dT, sT] }) (elem : TypeId) (size m : Nat) (hu : P.underlying dT = some (.slice elem)) (hsz : (P.info? elem).map (·.size) = some size)
    (g off dLen dCap : Nat) (ad : Addr) (sLen sCap : Nat) (hd : a.eval d = .slice (some ⟨g, off, none⟩) dLen dCap) (hs : a.eval s = .slice (some ad) sLen sCap)
    (cur : List Value) (t : TypeId) (hg : w.heap[g]? = some (.cells cur.toArray t (0, 0))) (cs : List Value) (hm : m = Nat.min sLen dLen) (hn : cs.length = m * size)
    (hsrc : ∀ j v, cs[j]? = some v → w.cell? (ad.add j) = some v) (hfit : off + cs.length ≤ cur.length) (h1 : ∀ v ∈ cs, v.oneCell' = true) (B : Nat) (w0 : World) (hb : Below B w0 w) (hBg : B ≤ g)
    (h : ∀ w', Hid (w'.heap[g]? = some (.cells (splice cur off cs).toArray t (0, 0))) → Below B w0 w' → wpList P ops Q rest (a.put o.dst (goInt m)) w') : wpList P ops Q (o :: rest) a w := by
  refine wpList_plain hgd fun K hK => ?_
  have hrun := run_copy_rowN (P := P) w dT sT o.type elem g off dLen dCap ad sLen sCap cur.toArray t cs size m hu hsz hg hm hn hsrc (by simpa using hfit) h1
  unfold Oper.wp
  simp [execOp, ho, resolve, invoke, builtin, hd, hs, hrun, Result.andThen]
  exact hK _ _ (h _ (show _ = _ by simpa [splice] using setRow_heap w g _ _ t _ hg) (below_setRow hb hBg _))
theorem step_copyN {P : Program} {ops : Array Oper} {o : Oper} {a : Act} {w : World} {K : Act → World → Prop} {Q : Exit → Act → World → Prop} {E : Prop} (hgd : o.guard = none) (d s : Operand) (dT sT : TypeId)
    (ho : o.op = .call { callee := .builtin .copy, args := #[d, s], argTypes := #[dT, sT] }) (elem : TypeId) (size m : Nat) (hu : P.underlying dT = some (.slice elem)) (hsz : (P.info? elem).map (·.size) = some size)
    (g off dLen dCap : Nat) (ad : Addr) (sLen sCap : Nat) (hd : a.eval d = .slice (some ⟨g, off, none⟩) dLen dCap) (hs : a.eval s = .slice (some ad) sLen sCap)
    (cur : List Value) (t : TypeId) (hg : w.heap[g]? = some (.cells cur.toArray t (0, 0))) (cs : List Value) (hm : m = Nat.min sLen dLen) (hn : cs.length = m * size)
    (hsrc : ∀ j v, cs[j]? = some v → w.cell? (ad.add j) = some v) (hfit : off + cs.length ≤ cur.length) (h1 : ∀ v ∈ cs, v.oneCell' = true) (B : Nat) (w0 : World) (hb : Below B w0 w) (hBg : B ≤ g)
    (h : ∀ w', Hid (w'.heap[g]? = some (.cells (splice cur off cs).toArray t (0, 0))) → Below B w0 w' → K (a.put o.dst (goInt m)) w') :
    if Region.wanted o (yielded ops a.tmps) = true then Oper.wp P o a w K Q else E := by
  have hw : Region.wanted o (yielded ops a.tmps) = true := by simp [Region.wanted, hgd]
  rw [if_pos hw]
  have hrun := run_copy_rowN (P := P) w dT sT o.type elem g off dLen dCap ad sLen sCap cur.toArray t cs size m hu hsz hg hm hn hsrc (by simpa using hfit) h1
  unfold Oper.wp
  simp [execOp, ho, resolve, invoke, builtin, hd, hs, hrun, Result.andThen]
  exact h _ (show _ = _ by simpa [splice] using setRow_heap w g _ _ t _ hg) (below_setRow hb hBg _)

theorem prs_cons (p : Int × Int) (ps : List (Int × Int)) : prs (p :: ps) = .int .i64 p.1 :: .int .i64 p.2 :: prs ps := rfl
theorem prs_take (ps : List (Int × Int)) (k : Nat) : (prs ps).take (k * 2) = prs (ps.take k) := by
  induction ps generalizing k with
  | nil => simp [prs]
  | cons p ps ih =>
    cases k with
    | zero => rfl
    | succ k =>
      have e : (k + 1) * 2 = k * 2 + 1 + 1 := by omega
      rw [prs_cons, e, List.take_succ_cons, List.take_succ_cons, ih, List.take_succ_cons, prs_cons]
theorem prs_drop (ps : List (Int × Int)) (k : Nat) : (prs ps).drop (k * 2) = prs (ps.drop k) := by
  induction ps generalizing k with
  | nil => simp [prs]
  | cons p ps ih =>
    cases k with
    | zero => rfl
    | succ k =>
      have e : (k + 1) * 2 = k * 2 + 1 + 1 := by omega
      rw [prs_cons, e, List.drop_succ_cons, List.drop_succ_cons, ih, List.drop_succ_cons]
theorem prs_splice (ps qs : List (Int × Int)) (k : Nat) : splice (prs ps) (k * 2) (prs qs) = prs (splice ps k qs) := by
  unfold splice
  rw [prs_take, prs_len, ← Nat.add_mul, prs_drop, prs_app, prs_app]
def repP (p : Int × Int) (n k : Nat) : List (Int × Int) := List.replicate k p ++ List.replicate (n - k) (0, 0)
theorem repP_len (p : Int × Int) (n k : Nat) (hk : k ≤ n) : (repP p n k).length = n := by simp [repP]; omega
theorem repP_splice (p : Int × Int) (n k m : Nat) (_ : k + m ≤ n) : splice (repP p n k) k (List.replicate m p) = repP p n (k + m) := by
  unfold splice repP
  rw [List.take_left' (by simp), List.length_replicate, List.drop_append, List.drop_replicate, List.drop_replicate, List.length_replicate]
  have e1 : k - (k + m) = 0 := by omega
  have e2 : k + m - k = m := by omega
  have e3 : n - k - m = n - (k + m) := by omega
  rw [e1, e2, e3, List.replicate_zero, List.nil_append, ← List.append_assoc, List.replicate_append_replicate]
theorem repP_full (p : Int × Int) (n : Nat) : repP p n n = List.replicate n p := by simp [repP]
def repC (p : Int × Int) (n k : Nat) : List Value := prs (repP p n k)
def repS (p : Int × Int) (m : Nat) : List Value := prs (List.replicate m p)
theorem repC_len (p : Int × Int) (n k : Nat) (hk : k ≤ n) : (repC p n k).length = n * 2 := by rw [repC, prs_len, repP_len p n k hk]
theorem repS_len (p : Int × Int) (m : Nat) : (repS p m).length = m * 2 := by rw [repS, prs_len, List.length_replicate]
theorem repC_splice (p : Int × Int) (n k m : Nat) (h : k + m ≤ n) : splice (repC p n k) (k * 2) (repS p m) = repC p n (k + m) := by rw [repC, repS, prs_splice, repP_splice p n k m h, repC]
theorem repC_none (p : Int × Int) (n : Nat) : repC p n 0 = (madeCells #[.int .i64 0, .int .i64 0] (n * 2)).toList := by
  apply List.ext_getElem?
  intro j
  by_cases hj : j < n * 2
  · have h1 : (repC p n 0)[j]? = some (.int .i64 0) := by
      have h0 : repC p n 0 = List.replicate (n * 2) (.int .i64 0) := by
        rw [repC, repP]
        simp only [List.replicate_zero, List.nil_append, Nat.sub_zero]
        clear hj
        induction n with
        | zero => rfl
        | succ n ih =>
          have e : (n + 1) * 2 = n * 2 + 1 + 1 := by omega
          rw [List.replicate_succ, prs_cons, ih, e, List.replicate_succ, List.replicate_succ]
      rw [h0, List.getElem?_replicate, if_pos hj]
    rw [h1]
    have h2 : ((madeCells #[Value.int .i64 0, Value.int .i64 0] (n * 2)).toList)[j]? = some (#[Value.int .i64 0, Value.int .i64 0][j % 2]!) := by
      simp [madeCells, hj]
    rw [h2]
    have : j % 2 = 0 ∨ j % 2 = 1 := by omega
    rcases this with h | h <;> rw [h] <;> rfl
  · rw [List.getElem?_eq_none (by rw [repC_len p n 0 (by omega)]; omega), List.getElem?_eq_none (by simp [size_madeCells]; omega)]
theorem own_wholeN {w : World} {base : Nat} {e : TypeId} {g n size : Nat} {xs : List Value} (h : w.ownsRow base e size (.slice (some ⟨g, 0, none⟩) n n) n xs) : w.heap[g]? = some (.cells xs.toArray e (0, 0)) := by
  rcases h.2 with ⟨h0, _⟩ | ⟨g', cap, cur, hv, hg, hh, hcap, hm, hcs, ht⟩
  · cases h0
  · injection hv with h1 _ h3
    injection h1 with h1
    injection h1 with h1
    subst h1 h3
    rw [hh]
    rw [List.take_of_length_le (by simp [hcs])] at ht
    subst ht
    simp
theorem own_of_wholeN {w : World} {base : Nat} {e : TypeId} {g n size : Nat} {xs : List Value} (h : w.heap[g]? = some (.cells xs.toArray e (0, 0))) (hx : xs.length = n * size) (hb : base ≤ g) (hm : n ≤ 9223372036854775807) : w.ownsRow base e size (.slice (some ⟨g, 0, none⟩) n n) n xs :=
  ⟨hx, .inr ⟨g, n, xs.toArray, rfl, hb, h, Nat.le_refl _, by simp only [maxLen]; omega, by simp [hx], by rw [List.take_of_length_le (by simp [hx])]⟩⟩
theorem repC_src {w : World} {g : Nat} {e : TypeId} (p : Int × Int) (n k j : Nat) (v : Value) (m : Nat) (hm : m ≤ k) (hr : w.heap[g]? = some (.cells (repC p n k).toArray e (0, 0))) (hv : (repS p m)[j]? = some v) : w.cell? ((⟨g, 0, none⟩ : Addr).add j) = some v := by
  refine World.news_of_block hr j v ?_
  have e1 : repS p m = (repC p n k).take (m * 2) := by
    rw [repS, repC, prs_take, repP, List.take_append_of_le_length (by simp; omega), List.take_replicate]
    congr 2
    omega
  rw [e1] at hv
  have := (List.getElem?_eq_some_iff.1 hv).1
  rw [List.getElem?_take_of_lt (by simp at this; omega)] at hv
  simpa using hv
theorem sz_far : (Tryz.prog.info? 161).map (·.size) = some 2 := by kernel_rfl
theorem ty_fars : SliceTy Tryz.prog 165 161 2 16 := .mk' Tryz.underlying165 (z := .agg #[.int .i64 0, .int .i64 0]) (by kernel_rfl) rfl (by decide)
set_option maxRecDepth 100000 in
set_option maxHeartbeats 1000000 in
theorem repeatF_any (A : Option Addr) (c lo : Nat) (p : Int × Int) (n : Nat) (w : World) (hr : Row w lo 2 A 1 (prs [p])) (hn : n ≤ 1000000000) (hn1 : 1 ≤ n) :
    Calls Tryz.prog 128 #[.slice A 1 c, .int .i64 n] w fun e w' => ∃ A' c', e = .returned (.slice A' n c') ∧ w'.ownsRow w.heap.size 161 2 (.slice A' n c') n (prs (List.replicate n p)) ∧ Below w.heap.size w w' := by
  obtain ⟨und, ⟨i0, z0, hi0, hz0, hz1, hz2, hz3⟩, _⟩ := ty_fars
  have hz0' : z0 = .agg #[.int .i64 0, .int .i64 0] := by
    have : (Tryz.prog.info? 161).map (fun i => i.zero) = some (some (.agg #[.int .i64 0, .int .i64 0])) := by kernel_rfl
    rw [hi0] at this
    simp [hz0] at this
    exact this
  subst hz0'
  obtain ⟨sb, so, rfl, _, hsb, hsc⟩ := hr.2 (by omega)
  have hd0 : decide ((n : Int) < 0) = false := by simp
  have hd1 : decide ((9223372036854775807 : Int) < (n : Int)) = false := by simp; omega
  go_enter Tryz.func128, Tryz.ntmps128
  go_wp2_with fail
  refine (mul_one' n hn _).mono ?_
  rintro e w' ⟨rfl, rfl⟩
  go_wp2_with (first | (at_make; go_must (refine wpList_make_full _ rfl _ _ 165 rfl w.heap.size 161 i0 _ 2 und hi0 hz0 hz1 .i64 .i64 _ _ n rfl rfl rfl rfl (by rw [hz2]; omega) (by simp only [maxLen]; omega) (Nat.le_refl _) ?_)))
  intro w1 hown1 hg1
  rw [← repC_none p n] at hown1
  have HR0 := Lib.hid (own_wholeN hown1)
  have hb1 : Below w.heap.size w w1 := below_of_grown hg1 (Nat.le_refl _) (fun k hk => by cases hk)
  have hr1 := hr.below hb1
  have hl0 := repC_len p n 0 (by omega)
  have hs1 : ∀ j v, (repS p 1)[j]? = some v → w1.cell? ((⟨sb, so, none⟩ : Addr).add j) = some v := by
    intro j v hv
    have e : (⟨sb, so, none⟩ : Addr).add j = ⟨sb, so + j, none⟩ := by unfold Addr.add; split <;> simp_all
    rw [e, World.cell?_of_block (hb1.block sb hsb)]
    exact hsc j v hv
  have HS := Lib.hid hs1
  clear hown1 hs1 hsc
  go_wp2_with (refine wpList_copyN rfl (.tmp 31) (.tmp 32) 165 165 rfl 161 2 1 und sz_far w.heap.size 0 n n ⟨sb, so, none⟩ 1 c rfl rfl (repC p n 0) 161 HR0.out (repS p 1) (by simp only [Nat.min_def]; split <;> omega) (repS_len _ _) HS.out (by rw [repS_len]; omega) (prs_one _) w.heap.size w hb1 (Nat.le_refl _) ?_)
  intro w2 HR1 hb2
  have HR2 : Hid (w2.heap[w.heap.size]? = some (.cells (repC p n 1).toArray 161 (0, 0))) := by
    have h1 := HR1.out
    rw [show (0 : Nat) = 0 * 2 from rfl, repC_splice p n 0 1 (by omega), Nat.zero_add] at h1
    exact Lib.hid h1
  clear HR1 HR0 hl0 HS hr hr1
  go_wp2_with fail
  go_loopw [8] (fun i wr => ∃ k : Nat, k ≤ n ∧ 0 < k ∧ i = .int .i64 k ∧ Hid (wr.heap[w.heap.size]? = some (.cells (repC p n k).toArray 161 (0, 0))) ∧ Below w.heap.size w wr) (fun i _ => n - (intOf i).toNat)
  case atStart => exact ⟨1, by omega, by omega, rfl, HR2, hb2⟩
  case round =>
    obtain ⟨k, hk, hk1, rfl, HR, hbw⟩ := hrel
    by_cases hlt : k < n
    · have hl1 := repC_len p n k hk
      have HL1 := Lib.hid hl1
      clear hl1
      have hnk : ¬ n = k := by omega
      have hw1 : IntKind.i64.wrap ((k : Int) + ((min k (n - k) : Nat) : Int)) = (k : Int) + ((min k (n - k) : Nat) : Int) := IntWalk.i64_in _ ⟨by omega, by omega⟩
      generalize hm : min k (n - k) = m at hw1
      have HM := Lib.hid hm
      clear hm
      go_wp2_with fail
      go_region_law (refine step_copyN rfl (.tmp 41) (.tmp 44) 165 165 rfl 161 2 m und sz_far w.heap.size (k * 2) (n - k) (n - k) ⟨w.heap.size, 0, none⟩ k n (by simp [Act.eval, Act.put, hnk]) (by simp [Act.eval, Act.put]) (repC p n k) 161 HR.out (repS p m) (by have := HM.out; simp only [Nat.min_def] at this ⊢; exact this.symm) (repS_len _ _) (fun j v hv => repC_src p n k j v m (by have := HM.out; omega) HR.out hv) (by rw [repS_len, HL1.out]; have := HM.out; omega) (prs_one _) w.heap.size w hbw.drew (Nat.le_refl _) ?_; intro w3 HR3 hb3)
      have HR4 : Hid (w3.heap[w.heap.size]? = some (.cells (repC p n (k + m)).toArray 161 (0, 0))) := by
        have h1 := HR3.out
        rw [repC_splice p n k m (by have := HM.out; omega)] at h1
        exact Lib.hid h1
      clear HR3
      go_wp2_with fail
      go_frame
      clear hw1
      have := HM.out
      go_roundw
      case rel =>
        refine ⟨_, _, _, _, _, _, _, _, _, _, _, _, _, _, ?_, rfl⟩
        exact ⟨k + m, by omega, by omega, by simp, HR4, hb3⟩
      case measure => simp [intOf]; omega
    · have hkn : k = n := by omega
      subst hkn
      go_wp2_with fail
      go_ret
      refine ⟨_, _, rfl, ?_, hbw⟩
      have := own_of_wholeN (base := w.heap.size) (size := 2) HR.out (repC_len _ _ _ (Nat.le_refl _)) (Nat.le_refl _) (by omega)
      rw [repC, repP_full] at this
      exact this
end Go.Proofs.YtiigmolppcaplaaGreat
