/- The walks of Splice, Differ, DifferOf and slices.Clone over pieces. -/
import Derived.Test.YtgkjpcapoofphaaInpH
namespace Go.Proofs.Ytgkjpcapoofphaa
open Go.RowKit

def spE (ps qs : List (Int × Int)) (n : Int) : Int := if firstE [inFault ps, inFault qs] = 0 then (if spanFault n 0 200000 = 0 then sqE (unf ps) (unf qs) n.toNat else 1) else firstE [inFault ps, inFault qs]
def spR (ps qs : List (Int × Int)) (n : Int) : List (Int × Int) := if firstE [inFault ps, inFault qs] = 0 ∧ spanFault n 0 200000 = 0 then sqR (unf ps) (unf qs) n.toNat else []
theorem two_ok {a b : Int} (h : firstE [a, b] = 0) : a = 0 ∧ b = 0 := by
  rw [firstE_two] at h
  by_cases ha : a = 0
  · simp [ha] at h; exact ⟨ha, h⟩
  · simp [ha] at h
theorem spE_bad {ps qs : List (Int × Int)} {n : Int} (h : ¬ firstE [inFault ps, inFault qs] = 0) : spE ps qs n = firstE [inFault ps, inFault qs] := by simp only [spE, h, if_false]
theorem spR_bad {ps qs : List (Int × Int)} {n : Int} (h : ¬ (firstE [inFault ps, inFault qs] = 0 ∧ spanFault n 0 200000 = 0)) : spR ps qs n = [] := by simp only [spR, h, if_false]
theorem spE_span {ps qs : List (Int × Int)} {n : Int} (h : firstE [inFault ps, inFault qs] = 0) (h' : spanFault n 0 200000 = 1) : spE ps qs n = 1 := by simp [spE, h, h']
theorem spE_ok {ps qs : List (Int × Int)} {n : Int} (h : firstE [inFault ps, inFault qs] = 0) (h' : spanFault n 0 200000 = 0) : spE ps qs n = sqE (unf ps) (unf qs) n.toNat := by simp [spE, h, h']
theorem spR_ok {ps qs : List (Int × Int)} {n : Int} (h : firstE [inFault ps, inFault qs] = 0) (h' : spanFault n 0 200000 = 0) : spR ps qs n = sqR (unf ps) (unf qs) n.toNat := by simp [spR, h, h']
/-- The first frames, then 0 up to n, then the other input: put together as pieces. -/
theorem splice_unf (ps qs : List (Int × Int)) (n : Nat) (hx : (cutL (unf ps) 0 n).length ≤ n) : unf (foldM (cutL (unf ps) 0 n) ++ [(0, (n : Int) - psum (foldM (cutL (unf ps) 0 n)))] ++ qs) = spliced (unf ps) (unf qs) n := by
  have h1 : ∀ l : List Int, unf (foldM l) = l := by
    intro l
    suffices H : ∀ out : List (Int × Int), (∀ p ∈ out, 0 ≤ p.2) → unf (l.foldl (fun o h => fadd o h 1) out) = unf out ++ l from by simpa [unf, foldM] using H [] (by simp)
    induction l with
    | nil => intro out _; simp
    | cons x l ih =>
      intro out ho
      rw [List.foldl_cons, ih _ (fadd_mem (by omega) ho)]
      have : unf (fadd out x 1) = unf out ++ [x] := by
        unfold fadd
        simp only [show ¬ (1 : Int) = 0 by omega, if_false]
        cases hl : out.getLast? with
        | none => simp at hl; subst hl; simp [unf]
        | some q =>
          by_cases hq : q.1 = x
          · obtain ⟨r, rfl⟩ := List.getLast?_eq_some_iff.1 hl
            have hq2 := ho q (by simp)
            simp only [hq, if_true, List.dropLast_concat, unf_app]
            simp only [unf, List.flatMap_cons, List.flatMap_nil, List.append_nil, hq, List.append_assoc]
            congr 1
            rw [show (q.2 + 1).toNat = q.2.toNat + 1 by omega, List.replicate_succ']
          · simp [hq, unf]
      rw [this]; simp
  rw [unf_app, unf_app, h1, foldM_psum, spliced, firsts_eq]
  simp [unf, cutL]
  omega

set_option maxHeartbeats 1000000 in
theorem splice_any (A B : Option Addr) (c d lo lo' : Nat) (ps qs : List (Int × Int)) (n : Int) (w : World) (hr : Row w lo 2 A ps.length (prs ps)) (hr' : Row w lo' 2 B qs.length (prs qs)) (hl : ps.length ≤ 1000000000) (hl' : qs.length ≤ 1000000000) :
    Calls Try.prog 53 #[.slice A ps.length c, .slice B qs.length d, .int .i64 n] w fun e w' => ∃ A' c', e = .returned (.tuple #[.slice A' (spR ps qs n).length c', .int .i64 (spE ps qs n)]) ∧ Row w' w.heap.size 2 A' (spR ps qs n).length (prs (spR ps qs n)) ∧ Below w.heap.size w w' := by
  go_enter Try.func53, Try.ntmps53
  go_wp2_with fail
  refine (checkInput_any _ _ _ ps _ hr hl).mono ?_
  rintro e w1 ⟨rfl, hb1⟩
  go_wp2_with fail
  refine (checkInput_any _ _ _ qs _ (hr'.below hb1) hl').mono ?_
  rintro e w2 ⟨rfl, hb2⟩
  have hb12 := below_up hb1 hb2
  have z12 := hb12.size
  go_wp2_with fail
  refine (first_any _ _ w.heap.size [inFault ps, inFault qs] _ (by first | exact row_new' _ (by first | rfl | simp) (by first | omega | (simp; omega)) rfl | exact row_newN _ _ (by first | rfl | simp) (by first | omega | (simp; omega)) rfl | exact row_newD _ (by first | rfl | simp) (by first | omega | (simp; omega)) rfl) (by simp)).mono ?_
  rintro e w3 ⟨rfl, rfl⟩
  by_cases h0 : firstE [inFault ps, inFault qs] = 0
  · obtain ⟨hp0, hq0⟩ := two_ok h0
    obtain ⟨p1, p2, p3⟩ := inFault_ok hp0
    obtain ⟨q1, q2, q3⟩ := inFault_ok hq0
    have HP := Lib.hid (show ∀ p ∈ ps, 0 ≤ p.2 from fun p hp => by have := p2 p hp; omega)
    have HQ := Lib.hid (show ∀ p ∈ qs, 0 ≤ p.2 from fun p hp => by have := q2 p hp; omega)
    have hup : (unf ps).length ≤ 200000 := by have := unf_len ps HP.out; omega
    have huq := unf_len qs HQ.out
    have H0 := Lib.hid h0
    have h0' : (firstE [inFault ps, inFault qs] != 0) = false := by simpa using h0
    rw [h0]
    clear h0 h0' p2 q2 hp0 hq0
    have hbx : Below w.heap.size w (w2.alloc (.cells #[.int .i64 (inFault ps), .int .i64 (inFault qs)] 29)) := hb12.alloc z12 _
    have hrx := (hr.below hb12).alloc (.cells #[.int .i64 (inFault ps), .int .i64 (inFault qs)] 29)
    have hrx' := (hr'.below hb12).alloc (.cells #[.int .i64 (inFault ps), .int .i64 (inFault qs)] 29)
    go_wp2_with fail
    refine (out_any _ _ _ _).mono ?_
    rintro e w3 ⟨rfl, rfl⟩
    by_cases h4 : 0 ≤ n ∧ n ≤ 200000
    · have h4' : (decide (n < 0) || decide (200000 < n)) = false := by simp; omega
      have H4 := Lib.hid (span_ok h4)
      rw [h4']
      obtain ⟨m, rfl⟩ := Int.eq_ofNat_of_zero_le h4.1
      have hm : m ≤ 200000 := by omega
      clear h4' h4
      have HU := Lib.hid (splice_unf ps qs m (by simp [cutL]; omega))
      have hcl := cutL_len (unf ps) 0 m
      have hfl := foldM_len (cutL (unf ps) 0 m)
      have HFP := Lib.hid (foldM_pos (cutL (unf ps) 0 m))
      have hfs := foldM_psum (cutL (unf ps) 0 m)
      have hfs2 : psum (foldM (cutL (unf ps) 0 m)) ≤ m := by rw [hfs]; simp [cutL]; omega
      have hfs3 : 0 ≤ psum (foldM (cutL (unf ps) 0 m)) := by rw [hfs]; omega
      clear hfs
      go_wp2_with fail
      generalize w2.alloc (.cells #[.int .i64 (inFault ps), .int .i64 (inFault qs)] 29) = w3 at *
      refine (part_any _ _ _ ps 0 m _ hrx (by omega) HP.out (by omega) (by omega) (by omega)).mono ?_
      rintro e w4 ⟨A4, c4, rfl, hown4, hb4⟩
      have hown4' := own_weak hown4 hbx.size
      have hb4x := below_up hbx hb4
      have hrq4 := hrx'.below hb4
      clear hown4 hbx hrx hrx' hb4 hb1 hb2 hb12
      generalize hP : foldM (cutL (unf ps) 0 m) = P at *
      have HPX := Lib.hid hP
      clear hP
      go_wp2_with fail
      refine (frames_any _ _ _ P _ (Row.of_own hown4') (by omega) HFP.out (by omega)).mono ?_
      rintro e w5 ⟨rfl, hb5⟩
      have hown5 := own_keep hown4' hb5
      have hb5x := below_up hb4x hb5
      have hrq5 := hrq4.below hb5
      have z5 := hb5x.size
      clear hown4' hb4x hrq4 hb5
      go_wp2_with (at_builtin; go_must (refine wpList_app (lo := w.heap.size) (base := w.heap.size) (n := P.length) (xs := prs P) _ _ rfl _ _ ty_prs rfl (by repeat (first | exact hown5 | refine World.ownsRow.alloc ?_ _ | refine own_drewN ?_ _ | refine World.ownsRow.drew ?_)) rfl (by first | exact row_new' _ (by first | rfl | simp) (by first | omega | (simp; omega)) rfl | exact row_newN _ _ (by first | rfl | simp) (by first | omega | (simp; omega)) rfl | exact row_newD _ (by first | rfl | simp) (by first | omega | (simp; omega)) rfl) rfl rfl (by first | omega | decide) (by first | omega | decide) (by first | omega | (simp; omega)) ?_))
      intro A6 c6 w6 hown6 hg6 _
      have hb6x : Below w.heap.size w w6 := below_app hown5 (by repeat (first | exact hb5x | refine Below.alloc ?_ (by first | omega | (simp; omega)) _ | refine below_drewN' ?_ _ | refine Below.drew ?_)) hg6 (Nat.le_refl _) (by simp; omega)
      have z6 := hb6x.size
      clear hown5 hg6 hb5x hrq5
      go_wp2_with (at_builtin; go_must (refine wpList_app _ _ rfl _ _ ty_prs rfl hown6 rfl (hr'.below hb6x) rfl (prs_all _) (by omega) (by omega) z6 ?_))
      intro A7 c7 w7 hown7 hg7 _
      have hb7x : Below w.heap.size w w7 := below_app hown6 hb6x hg7 (Nat.le_refl _) z6
      have hL : ∃ L : List (Int × Int), L = P ++ [(0, (m : Int) - psum P)] ++ qs := ⟨_, rfl⟩
      obtain ⟨L, hL⟩ := hL
      have HLN : Hid (P.length + 1 + qs.length = L.length) := Lib.hid (by rw [hL]; simp; omega)
      have hown8 : w7.ownsRow w.heap.size 39 2 (.slice A7 L.length c7) L.length (prs L) := by
        rw [← HLN.out, hL, prs_app, prs_app]; exact own_cast (by simp [prs]) hown7
      have hLl : L.length ≤ 1000000 := by rw [← HLN.out]; omega
      have HLP : Hid (∀ p ∈ L, 0 ≤ p.2) := Lib.hid (by
        rw [hL]
        intro p hp
        simp only [List.mem_append, List.mem_singleton] at hp
        rcases hp with (h1 | h1) | h1
        · exact HFP.out p h1
        · subst h1; simp; omega
        · exact HQ.out p h1)
      have hLs : psum L = (m : Int) + psum qs := by rw [hL, psum_app, psum_app]; simp [psum]; omega
      have HLU : Hid (foldM (spliced (unf ps) (unf qs) m) = tidyM L) := Lib.hid (by
        rw [← fold_unf L HLP.out, hL, ← HU.out])
      have htl := tidyM_len L
      have HTP := Lib.hid (tidyM_mem L HLP.out)
      have hts := tidyM_psum L
      rw [HLN.out]
      clear hown7 hown6 hg7 hL HLN HU HPX HFP hb6x
      go_wp2_with fail
      refine (tidy_any _ _ _ L _ (Row.of_own hown8) (by omega) HLP.out (by omega)).mono ?_
      rintro e w8 ⟨A8, c8, rfl, hown9, hb8⟩
      have hb8x := below_up hb7x hb8
      have hown9' := own_weak hown9 hb7x.size
      clear hown8 hown9 hb7x hb8
      generalize tidyM L = T at *
      go_wp2_with fail
      refine (frames_any _ _ _ T _ (Row.of_own hown9') (by omega) HTP.out (by omega)).mono ?_
      rintro e w9 ⟨rfl, hb9⟩
      have hb9x := below_up hb8x hb9
      have hrow9 := (Row.of_own hown9').below hb9
      have hts2 : psum T = (m : Int) + ((unf qs).length : Int) := by omega
      have HTS := Lib.hid hts2
      clear hown9' hb9 hb8x
      by_cases h5 : 200000 < m + (unf qs).length
      · have HE := Lib.hid (sqE_long (xs := unf ps) h5)
        have h5' : 200000 < psum T := by omega
        clear hts hts2 hLs
        go_wp2_with fail
        go_ret2
        rw [spR_ok H0.out H4.out, spE_ok H0.out H4.out, Int.toNat_natCast, sqR_bad HE.out, HE.out]
        exact ⟨none, 0, rfl, Row.none_ _ _ _ _, hb9x⟩
      · have h5' : ¬ 200000 < psum T := by omega
        have h5d : decide (200000 < psum T) = false := by simpa using h5'
        clear hts hts2 hLs
        by_cases h6 : 5000 < T.length
        · have HE := Lib.hid (sqE_many (xs := unf ps) (ys := unf qs) (n := m) (by rw [HLU.out]; exact h6))
          go_wp2_with fail
          go_ret2
          rw [spR_ok H0.out H4.out, spE_ok H0.out H4.out, Int.toNat_natCast, sqR_bad HE.out, HE.out]
          exact ⟨none, 0, rfl, Row.none_ _ _ _ _, hb9x⟩
        · have HE := Lib.hid (sqE_ok (xs := unf ps) (ys := unf qs) (n := m) h5 (by rw [HLU.out]; exact h6))
          go_wp2_with fail
          go_ret2
          rw [spR_ok H0.out H4.out, spE_ok H0.out H4.out, Int.toNat_natCast, sqR_ok HE.out, HE.out, HLU.out]
          exact ⟨A8, c8, rfl, hrow9, hb9x⟩
    · have h4' : (decide (n < 0) || decide (200000 < n)) = true := by simp; omega
      have H4 := Lib.hid (span_bad h4)
      rw [h4']
      clear h4' h4
      go_wp2_with fail
      go_ret2
      rw [spR_bad (by rw [H4.out]; omega), spE_span H0.out H4.out]
      exact ⟨none, 0, rfl, Row.none_ _ _ _ _, hbx⟩
  · have h0' : (firstE [inFault ps, inFault qs] != 0) = true := by simpa using h0
    have H0 := Lib.hid h0
    clear h0
    go_wp2_with fail
    go_ret2
    rw [spR_bad (fun h => H0.out h.1), spE_bad H0.out]
    exact ⟨none, 0, rfl, Row.none_ _ _ _ _, hb12.alloc z12 _⟩

theorem ret3_is {a b c x y z : Value} (h1 : a = x) (h2 : b = y) (h3 : c = z) : Ending.returned (.tuple #[a, b, c]) = .returned (.tuple #[x, y, z]) := by rw [h1, h2, h3]

/-- What Differ hands back. -/
def dfE (ps qs : List (Int × Int)) : Int := firstE [inFault ps, inFault qs]
def dfN (ps qs : List (Int × Int)) : Int := if dfE ps qs = 0 then max (diffM (unf ps) (unf qs)) 0 else 0
def dfB (ps qs : List (Int × Int)) : Bool := decide (dfE ps qs = 0) && decide (0 ≤ diffM (unf ps) (unf qs))
theorem dfN_ok {ps qs : List (Int × Int)} (h : dfE ps qs = 0) : dfN ps qs = max (diffM (unf ps) (unf qs)) 0 := by simp [dfN, h]
theorem dfN_bad {ps qs : List (Int × Int)} (h : ¬ dfE ps qs = 0) : dfN ps qs = 0 := by simp [dfN, h]
theorem dfB_ok {ps qs : List (Int × Int)} (h : dfE ps qs = 0) : dfB ps qs = decide (0 ≤ diffM (unf ps) (unf qs)) := by simp [dfB, h]
theorem dfB_bad {ps qs : List (Int × Int)} (h : ¬ dfE ps qs = 0) : dfB ps qs = false := by simp [dfB, h]
theorem heldL_u8 {xs : List Int} (h : ∀ x ∈ xs, 0 ≤ x ∧ x ≤ 255) (k : Nat) : 0 ≤ heldL xs k ∧ heldL xs k ≤ 255 := by
  rcases Nat.lt_or_ge k xs.length with hk | hk
  · rw [heldL_at xs k hk]; exact h _ (List.getElem_mem _)
  · rw [heldL_out xs k (by omega)]; omega

set_option maxHeartbeats 1000000 in
theorem differ_any (A B : Option Addr) (c d lo lo' : Nat) (ps qs : List (Int × Int)) (w : World) (hr : Row w lo 2 A ps.length (prs ps)) (hr' : Row w lo' 2 B qs.length (prs qs)) (hl : ps.length ≤ 1000000000) (hl' : qs.length ≤ 1000000000) :
    Calls Try.prog 55 #[.slice A ps.length c, .slice B qs.length d] w fun e w' => e = .returned (.tuple #[.int .i64 (dfN ps qs), .bool (dfB ps qs), .int .i64 (dfE ps qs)]) ∧ Below w.heap.size w w' := by
  go_enter Try.func55, Try.ntmps55
  go_wp2_with fail
  refine (checkInput_any _ _ _ ps _ hr hl).mono ?_
  rintro e w1 ⟨rfl, hb1⟩
  go_wp2_with fail
  refine (checkInput_any _ _ _ qs _ (hr'.below hb1) hl').mono ?_
  rintro e w2 ⟨rfl, hb2⟩
  have hb12 := below_up hb1 hb2
  have z12 := hb12.size
  go_wp2_with fail
  refine (first_any _ _ w.heap.size [inFault ps, inFault qs] _ (by first | exact row_new' _ (by first | rfl | simp) (by first | omega | (simp; omega)) rfl | exact row_newN _ _ (by first | rfl | simp) (by first | omega | (simp; omega)) rfl | exact row_newD _ (by first | rfl | simp) (by first | omega | (simp; omega)) rfl) (by simp)).mono ?_
  rintro e w3 ⟨rfl, rfl⟩
  have HD : Hid (dfE ps qs = firstE [inFault ps, inFault qs]) := Lib.hid rfl
  by_cases h0 : firstE [inFault ps, inFault qs] = 0
  · obtain ⟨hp0, hq0⟩ := two_ok h0
    obtain ⟨p1, p2, p3⟩ := inFault_ok hp0
    obtain ⟨q1, q2, q3⟩ := inFault_ok hq0
    have HP := Lib.hid (show ∀ p ∈ ps, 0 ≤ p.2 from fun p hp => by have := p2 p hp; omega)
    have HQ := Lib.hid (show ∀ p ∈ qs, 0 ≤ p.2 from fun p hp => by have := q2 p hp; omega)
    have HPV := Lib.hid (show ∀ p ∈ ps, 0 ≤ p.1 ∧ p.1 ≤ 255 from fun p hp => by have := p2 p hp; omega)
    have HQV := Lib.hid (show ∀ p ∈ qs, 0 ≤ p.1 ∧ p.1 ≤ 255 from fun p hp => by have := q2 p hp; omega)
    have hup : (unf ps).length ≤ 200000 := by have := unf_len ps HP.out; omega
    have huq : (unf qs).length ≤ 200000 := by have := unf_len qs HQ.out; omega
    have HXV := Lib.hid (unf_mem (P := fun x => 0 ≤ x ∧ x ≤ 255) HPV.out)
    have HYV := Lib.hid (unf_mem (P := fun x => 0 ≤ x ∧ x ≤ 255) HQV.out)
    have H0 : Hid (dfE ps qs = 0) := Lib.hid (by rw [HD.out, h0])
    have h0' : (firstE [inFault ps, inFault qs] != 0) = false := by simpa using h0
    rw [h0]
    clear h0 h0' p2 q2 hp0 hq0 HD
    have hbx : Below w.heap.size w (w2.alloc (.cells #[.int .i64 (inFault ps), .int .i64 (inFault qs)] 29)) := hb12.alloc z12 _
    go_wp2_with fail
    generalize w2.alloc (.cells #[.int .i64 (inFault ps), .int .i64 (inFault qs)] 29) = w3 at *
    refine (spread_any _ _ _ ps _ (hr.below hbx) hl HP.out HPV.out (by omega)).mono ?_
    rintro e w4 ⟨A4, c4, rfl, hown4, hb4⟩
    have hb4x := below_up hbx hb4
    go_wp2_with fail
    refine (spread_any _ _ _ qs _ (hr'.below hb4x) hl' HQ.out HQV.out (by omega)).mono ?_
    rintro e w5 ⟨A5, c5, rfl, hown5, hb5⟩
    have hb5x := below_up hb4x hb5
    have hrow4 := (Row.of_own hown4).below hb5
    have hrow5 := Row.of_own hown5
    clear hown4 hown5 hb4x hb5 hbx hb4 hb12 hb1 hb2
    generalize hxs : unf ps = xs at *
    generalize hys : unf qs = ys at *
    have HXS := Lib.hid hxs
    have HYS := Lib.hid hys
    clear hxs hys
    rcases Nat.lt_or_ge xs.length ys.length with hxy | hxy
    · have hxy' : (xs.length : Int) < (ys.length : Int) := by omega
      go_wp2_with fail
      go_loop [10, 11, 12, 31] (fun _ _ _ i => ∃ (k : Nat), k ≤ ys.length ∧ i = .int .i64 k ∧ Hid (∀ i : Nat, i < k → heldL xs (i : Int) = heldL ys (i : Int))) (fun _ _ _ i => ys.length - (intOf i).toNat)
      case atStart => exact ⟨0, Nat.zero_le _, rfl, Lib.hid (fun i hi => absurd hi (by omega))⟩
      case round =>
        obtain ⟨k, hk, rfl, hno⟩ := hrel
        by_cases hlt : k < ys.length
        · obtain ⟨bm, offm, rfl, _, _, ccm⟩ := hrow5.u8_at hlt
          have HKY := Lib.hid (heldL_at ys k hlt)
          have fin : heldL xs (k : Int) = heldL ys (k : Int) → ∀ i : Nat, i < k + 1 → heldL xs (i : Int) = heldL ys (i : Int) := fun h i hi => by
            rcases Nat.lt_or_ge i k with h1 | h1
            · exact hno.out i h1
            · have : i = k := by omega
              subst this; exact h
          have hit : heldL xs (k : Int) ≠ heldL ys (k : Int) → diffM xs ys = k := fun h => diffM_hit xs ys k (by omega) hno.out h
          have FIN := Lib.hid fin
          have HIT := Lib.hid hit
          clear fin hit
          by_cases ho : k < xs.length
          · obtain ⟨bo, offo, rfl, _, _, cco⟩ := hrow4.u8_at ho
            have HKX := Lib.hid (heldL_at xs k ho)
            by_cases he : xs[k] = ys[k]
            · have he' : (xs[k] != ys[k]) = false := by simpa using he
              have HN := Lib.hid (FIN.out (by rw [HKX.out, HKY.out, he]))
              clear he
              go_wp2_with fail
              go_round
              case rel => exact ⟨k + 1, by omega, by go_num, HN⟩
              case measure => simp [intOf]; omega
            · have he' : (xs[k] != ys[k]) = true := by simpa using he
              have HN := Lib.hid (HIT.out (by rw [HKX.out, HKY.out]; exact he))
              clear he
              go_wp2_with fail
              go_ret3
              exact ⟨ret3_is (by rw [dfN_ok H0.out, HXS.out, HYS.out, HN.out]; simp [Int.max_eq_left]) (by rw [dfB_ok H0.out, HXS.out, HYS.out, HN.out]; simp) (by rw [H0.out]; rfl), hb5x⟩
          · have HKX := Lib.hid (heldL_out xs k (by omega))
            by_cases he : ys[k] = 0
            · have he' : (0 != ys[k]) = false := by simp [he]
              have HN := Lib.hid (FIN.out (by rw [HKX.out, HKY.out, he]))
              clear he
              go_wp2_with fail
              go_round
              case rel => exact ⟨k + 1, by omega, by go_num, HN⟩
              case measure => simp [intOf]; omega
            · have he' : (0 != ys[k]) = true := by simpa using fun h : 0 = ys[k] => he h.symm
              have HN := Lib.hid (HIT.out (by rw [HKX.out, HKY.out]; exact fun h => he h.symm))
              clear he
              go_wp2_with fail
              go_ret3
              exact ⟨ret3_is (by rw [dfN_ok H0.out, HXS.out, HYS.out, HN.out]; simp [Int.max_eq_left]) (by rw [dfB_ok H0.out, HXS.out, HYS.out, HN.out]; simp) (by rw [H0.out]; rfl), hb5x⟩
        · have HN := Lib.hid (diffM_none xs ys (fun i hi => hno.out i (by omega)))
          go_wp2_with fail
          go_ret3
          exact ⟨ret3_is (by rw [dfN_ok H0.out, HXS.out, HYS.out, HN.out]; rfl) (by rw [dfB_ok H0.out, HXS.out, HYS.out, HN.out]; rfl) (by rw [H0.out]; rfl), hb5x⟩
    · have hxy' : ¬ ((xs.length : Int) < (ys.length : Int)) := by omega
      go_wp2_with fail
      go_loop [10, 11, 12, 31] (fun _ _ _ i => ∃ (k : Nat), k ≤ xs.length ∧ i = .int .i64 k ∧ Hid (∀ i : Nat, i < k → heldL xs (i : Int) = heldL ys (i : Int))) (fun _ _ _ i => xs.length - (intOf i).toNat)
      case atStart => exact ⟨0, Nat.zero_le _, rfl, Lib.hid (fun i hi => absurd hi (by omega))⟩
      case round =>
        obtain ⟨k, hk, rfl, hno⟩ := hrel
        by_cases hlt : k < xs.length
        · obtain ⟨bm, offm, rfl, _, _, ccm⟩ := hrow4.u8_at hlt
          have HKX := Lib.hid (heldL_at xs k hlt)
          have fin : heldL xs (k : Int) = heldL ys (k : Int) → ∀ i : Nat, i < k + 1 → heldL xs (i : Int) = heldL ys (i : Int) := fun h i hi => by
            rcases Nat.lt_or_ge i k with h1 | h1
            · exact hno.out i h1
            · have : i = k := by omega
              subst this; exact h
          have hit : heldL xs (k : Int) ≠ heldL ys (k : Int) → diffM xs ys = k := fun h => diffM_hit xs ys k (by omega) hno.out h
          have FIN := Lib.hid fin
          have HIT := Lib.hid hit
          clear fin hit
          by_cases ho : k < ys.length
          · obtain ⟨bo, offo, rfl, _, _, cco⟩ := hrow5.u8_at ho
            have HKY := Lib.hid (heldL_at ys k ho)
            by_cases he : xs[k] = ys[k]
            · have he' : (xs[k] != ys[k]) = false := by simpa using he
              have HN := Lib.hid (FIN.out (by rw [HKX.out, HKY.out, he]))
              clear he
              go_wp2_with fail
              go_round
              case rel => exact ⟨k + 1, by omega, by go_num, HN⟩
              case measure => simp [intOf]; omega
            · have he' : (xs[k] != ys[k]) = true := by simpa using he
              have HN := Lib.hid (HIT.out (by rw [HKX.out, HKY.out]; exact he))
              clear he
              go_wp2_with fail
              go_ret3
              exact ⟨ret3_is (by rw [dfN_ok H0.out, HXS.out, HYS.out, HN.out]; simp [Int.max_eq_left]) (by rw [dfB_ok H0.out, HXS.out, HYS.out, HN.out]; simp) (by rw [H0.out]; rfl), hb5x⟩
          · have HKY := Lib.hid (heldL_out ys k (by omega))
            by_cases he : xs[k] = 0
            · have he' : (xs[k] != 0) = false := by simpa using he
              have HN := Lib.hid (FIN.out (by rw [HKX.out, HKY.out, he]))
              clear he
              go_wp2_with fail
              go_round
              case rel => exact ⟨k + 1, by omega, by go_num, HN⟩
              case measure => simp [intOf]; omega
            · have he' : (xs[k] != 0) = true := by simpa using he
              have HN := Lib.hid (HIT.out (by rw [HKX.out, HKY.out]; exact he))
              clear he
              go_wp2_with fail
              go_ret3
              exact ⟨ret3_is (by rw [dfN_ok H0.out, HXS.out, HYS.out, HN.out]; simp [Int.max_eq_left]) (by rw [dfB_ok H0.out, HXS.out, HYS.out, HN.out]; simp) (by rw [H0.out]; rfl), hb5x⟩
        · have HN := Lib.hid (diffM_none xs ys (fun i hi => hno.out i (by omega)))
          go_wp2_with fail
          go_ret3
          exact ⟨ret3_is (by rw [dfN_ok H0.out, HXS.out, HYS.out, HN.out]; rfl) (by rw [dfB_ok H0.out, HXS.out, HYS.out, HN.out]; rfl) (by rw [H0.out]; rfl), hb5x⟩
  · have h0' : (firstE [inFault ps, inFault qs] != 0) = true := by simpa using h0
    have H0 : Hid (¬ dfE ps qs = 0) := Lib.hid (by rw [HD.out]; exact h0)
    clear h0
    go_wp2_with fail
    go_ret3
    exact ⟨ret3_is (by rw [dfN_bad H0.out]; rfl) (by rw [dfB_bad H0.out]; rfl) (by rw [HD.out]; rfl), hb12.alloc z12 _⟩
end Go.Proofs.Ytgkjpcapoofphaa
