/- Texts of this seat, laid together: Rg. -/
import Derived.Handy
import Derived.Test.YtggnccafmadacaaGreatDoorBu32
import Derived.Test.YtggnccafmadacaaGreatDoorBu19
import Derived.Test.YtggnccafmadacaaGreatDoorBu17
/- The walk of splitref1.HistoryRead's closure. -/
namespace Go.Proofs.YtggnccafmadacaaGreatDoor
set_option linter.unusedVariables false
set_option linter.unusedSimpArgs false
open Go.RowKit Go.Sort

theorem intV_num {s : List UInt8} {m : Nat} (h : numB s m = true) : intV s m = numV s m := by
  unfold intV numV
  rw [h, if_pos rfl]
  unfold numB at h
  simp only [Bool.and_eq_true] at h
  rw [h.1.1.1, h.1.1.2, h.1.2]; rfl
/-- A word as the reference takes it. -/
def spI (s : List UInt8) : Int := if s = [45] then 0 else intV s 9
theorem spI_ok {s : List UInt8} (h : spOK s = true) : spI s = spX s := by
  unfold spI spX
  by_cases h1 : s = [45]
  · rw [if_pos h1, if_pos h1]
  · rw [if_neg h1, if_neg h1]
    rw [(spOK_num h1).1, Bool.and_eq_true] at h
    exact intV_num h.1
theorem spI_map {l : List (List UInt8)} (h : l.all spOK = true) : l.map spI = l.map spX := by
  apply List.map_congr_left
  intro x hx
  exact spI_ok (List.all_eq_true.1 h x hx)
theorem nil_mem_full (ws : List (List UInt8)) : decide (([] : List UInt8) ∈ ws) = !fullW ws := by
  cases h : fullW ws
  · rw [fullW, List.all_eq_false] at h
    obtain ⟨x, hx, hp⟩ := h
    have : x = [] := by cases x with | nil => rfl | cons a b => simp at hp
    subst this
    exact decide_eq_true hx
  · refine decide_eq_false fun hm => ?_
    have := List.all_eq_true.1 h [] hm
    simp at this
theorem attB_short {ws : List (List UInt8)} (h : ws.length < 2) : attB ws = false := by
  unfold attB attHd
  rw [decide_eq_false (by omega)]; rfl
theorem HRd.one {t : List UInt8} {L b : Nat} {W : World} (h : HRd t L 0 b W) (h1 : (wordsT t 0).length = 1) : HRd t L 1 b W := by
  obtain ⟨h0, SA, TA, sc, td, zs, h2, h3, h4, h5, h6⟩ := h
  have e : (segsT t 1).length = 0 := by unfold segsT; rw [if_neg (by decide), List.length_drop, h1]
  exact ⟨h0, SA, TA, sc, td, zs, by rw [e]; exact h2, h3, h4, .inl (.inr e), by rw [e]; exact Nat.zero_le _⟩
theorem spOK_int {s : List UInt8} (h : s ≠ [45]) : spOK s = (!(intV s 9 == 0) && numB s 9) ∧ spI s = intV s 9 := by
  refine ⟨?_, by unfold spI; rw [if_neg h]⟩
  rw [(spOK_num h).1]
  cases hn : numB s 9
  · simp
  · rw [intV_num hn, Bool.eq_iff_iff]
    simp
theorem i64_numI (s : List UInt8) : -100000000000000000 ≤ intV s 9 ∧ intV s 9 ≤ 100000000000000000 := by
  unfold intV
  cases h : (decide (1 ≤ (unsign s).length) && decide ((unsign s).length ≤ 9) && digs (unsign s))
  · simp
  · rw [if_pos rfl]
    simp only [Bool.and_eq_true, decide_eq_true_eq] at h
    exact valS_bound h.2 h.1.2 (by decide)

set_option maxHeartbeats 8000000 in
set_option maxRecDepth 100000 in
theorem refCl_any (t : List UInt8) (b1 b2 B L k : Nat) (W : World) (ht : t.length ≤ 1000000) (hk : k < (linesL t).length) (hL : L ≤ W.heap.size) (hE : EnvB B W) (hB1 : B ≤ b1) (hB2 : B ≤ b2) (hBL : B ≤ L) (h : RRf t b1 b2 L k W) :
    Calls Tryz.prog 102 #[encStr (linesL t)[k], .pointer (some ⟨b1, 0, none⟩), .pointer (some ⟨b2, 0, none⟩)] W (LinePost t b1 b2 L k W (RRf t b1 b2)) := by
  obtain ⟨hbx, hb1L, hne, hH⟩ := h
  have hkn : k ≤ 1000001 := by have := (linesL_le t).1; omega
  have hsl : (linesL t)[k].length ≤ 1000000 := by have := (linesL_le t).2 _ (List.getElem_mem hk); omega
  have HWT := Lib.hid (wordsT_at hk)
  have hcl := cutAt_len 32 (linesL t)[k]
  have hcc := List.count_le_length (a := (32 : UInt8)) (l := (linesL t)[k])
  have HWL : Hid (∀ x ∈ wordsT t k, x.length ≤ 1000000) := Lib.hid (fun x hx => by
    rw [HWT.out] at hx
    have := cutAt_sum 32 _ x hx; omega)
  have HNE : Hid (wordsT t k ≠ []) := Lib.hid (by rw [HWT.out]; exact cutAt_ne _ _)
  have hwn : (wordsT t k).length ≤ 1000001 := by rw [HWT.out]; omega
  have BAD : Hid (∀ W', Stays L [b1, b2] W W' → okH t k = false → LinePost t b1 b2 L k W (RRf t b1 b2) (.returned (.bool false)) W') := Lib.hid (fun W' h1 h2 => ⟨by rw [h2], h1, fun h => by rw [h2] at h; cases h⟩)
  have GOOD : Hid (∀ ok W', Stays L [b1, b2] W W' → okH t k = ok → (ok = true → RRf t b1 b2 L (k + 1) W') → LinePost t b1 b2 L k W (RRf t b1 b2) (.returned (.bool ok)) W') := Lib.hid (fun ok W' h1 h2 h3 => ⟨by rw [h2], h1, fun h => h3 (by rw [← h2]; exact h)⟩)
  have HCW : Hid (cutAt 32 (linesL t)[k] = wordsT t k) := Lib.hid HWT.out.symm
  clear hcl hcc
  generalize hP : LinePost t b1 b2 L k W (RRf t b1 b2) = Post at *
  clear hP
  generalize (linesL t)[k] = s at *
  have HE := Lib.hid hE
  have hwp : 0 < (wordsT t k).length := List.length_pos_iff.2 HNE.out
  have HG0 : Hid ((wordsT t k).getD 0 [] = (wordsT t k)[0]) := Lib.hid (by rw [List.getD_eq_getElem?_getD, List.getElem?_eq_getElem hwp]; rfl)
  have HFE := Lib.hid (nil_mem_full (wordsT t k))
  clear hE HWT HNE
  go_enter Tryz.func102, Tryz.ntmps102
  go_wp2_with fail
  refine (split_any 32 s _ (by omega) HE.out.env).mono ?_
  rintro e w1 ⟨bw, rfl, hbw, hkw, hb⟩
  rw [HCW.out] at hkw
  simp only [HCW.out]
  have hst := Stays.of_below (bs := [b1, b2]) hb hL
  have hbx := hbx.below hb
  have hH := hH.below hb
  have hE := Lib.hid (HE.out.below (Below.mono hb (by omega)))
  have hz : L ≤ w1.heap.size := Nat.le_trans hL hb.size
  have hbwL : L ≤ bw := by omega
  clear hb hbw HE
  obtain ⟨c0, _⟩ : w1.cell? ⟨b1, 0, none⟩ = some (.bool (decide (k = 0))) ∧ True := ⟨by simpa using hbx.cell 0, trivial⟩
  have cz := hbx.lt
  have cf := hbx.thaw 0
  go_upto_region 4 with (fail)
  have hst := hst.set (p := ⟨b1, 0, none⟩) (.inl (by simp)) (.bool false)
  have hbx : Blk (w1.setCell ⟨b1, 0, none⟩ (.bool false)) b1 4 #[.bool (decide (k + 1 = 0))] := by
    have := hbx.poke 0 (.bool false)
    simpa using this
  have hH := hH.aside (i := 0) hb1L hne (.bool false)
  have hkw := hkw.past b1 0 (.bool false) (by omega)
  have hE := Lib.hid (hE.out.below ((Below.refl B w1).setCell (p := ⟨b1, 0, none⟩) hB1 (.bool false)))
  have hz : L ≤ (w1.setCell ⟨b1, 0, none⟩ (.bool false)).heap.size := by simpa [World.setCell] using hz
  clear c0 cz cf
  generalize w1.setCell ⟨b1, 0, none⟩ (.bool false) = w2 at *
  go_wp2_with fail
  refine (containsS_any (some ⟨bw, 0, none⟩) _ _ (wordsT t k) [] _ (hkw.strRow (Nat.le_refl _)) (by omega)).mono ?_
  rintro e w3 ⟨rfl, rfl⟩
  rw [HFE.out]
  have cw : w2.cell? ⟨bw, 0, none⟩ = some (encStr (wordsT t k)[0]) := by
    have := hkw.cell 0
    rw [this]; simp [strs, hwp]
  have cwz := hkw.lt
  cases hfw : fullW (wordsT t k)
  · have HOK : Hid (okH t k = false) := Lib.hid (by unfold okH; rw [hfw]; rfl)
    have HZ : Hid ((wordsT t k).length = 1 → (wordsT t k)[0] = []) := Lib.hid (fun h1 => by
      rw [fullW, List.all_eq_false] at hfw
      obtain ⟨x, hx, hp⟩ := hfw
      have hx0 : x = [] := by cases x with | nil => rfl | cons a b => simp at hp
      subst hx0
      obtain ⟨i, hi, he⟩ := List.mem_iff_getElem.1 hx
      have : i = 0 := by omega
      subst this
      exact he)
    clear hfw
    by_cases h1 : (wordsT t k).length = 1
    · have d1 : (((wordsT t k).length : Int) == 1) = true := by rw [h1]; rfl
      rw [HZ.out h1] at cw
      have e0 : (([] : List UInt8) == [115, 101, 103, 109, 101, 110, 116, 115]) = false := by decide
      clear h1 HZ
      go_wp2_with fail
      exact BAD.out _ hst HOK.out
    · have d1 : (((wordsT t k).length : Int) == 1) = false := by rw [beq_eq_false_iff_ne]; omega
      clear h1 HZ
      go_wp2_with fail
      exact BAD.out _ hst HOK.out
  · have HFB := Lib.hid hfw
    clear hfw
    by_cases h1 : (wordsT t k).length = 1
    · have d2 : decide (((wordsT t k).length : Int) < 2) = true := by rw [h1]; rfl
      have d1 : (((wordsT t k).length : Int) == 1) = true := by rw [h1]; rfl
      have H1 := Lib.hid h1
      by_cases hk0 : k = 0
      · have dk : decide (k = 0) = true := decide_eq_true hk0
        have HK0 := Lib.hid hk0
        by_cases hx0 : (wordsT t k)[0] = segW
        · have HOK : Hid (okH t k = true) := Lib.hid (by rw [okH_zero hk0, HFB.out, HG0.out, decide_eq_true hx0]; rfl)
          rw [hx0] at cw
          have e0 : (segW == [115, 101, 103, 109, 101, 110, 116, 115]) = true := by decide
          clear hx0 hk0 h1
          go_wp2_with fail
          refine GOOD.out true _ hst HOK.out (fun _ => ?_)
          have hk0 := HK0.out
          subst hk0
          exact ⟨hbx, hb1L, hne, hH.one H1.out⟩
        · have HOK : Hid (okH t k = false) := Lib.hid (by rw [okH_zero hk0, HG0.out, decide_eq_false hx0, Bool.and_false])
          have e0 : ((wordsT t k)[0] == [115, 101, 103, 109, 101, 110, 116, 115]) = false := str_word_ne hx0
          clear hx0 hk0 h1 HG0
          generalize (wordsT t k)[0] = x0 at *
          go_wp2_with fail
          exact BAD.out _ hst HOK.out
      · have dk : decide (k = 0) = false := decide_eq_false hk0
        have HOK : Hid (okH t k = false) := Lib.hid (by rw [okH_pos hk0, attB_short (by omega), Bool.and_false])
        clear hk0 h1 HG0
        obtain ⟨bx, hbx0⟩ : ∃ bx, ((wordsT t k)[0] == [115, 101, 103, 109, 101, 110, 116, 115]) = bx := ⟨_, rfl⟩
        generalize (wordsT t k)[0] = x0 at *
        cases bx
        all_goals
          go_wp2_with fail
          exact BAD.out _ hst HOK.out
    · have d2 : decide (((wordsT t k).length : Int) < 2) = false := by simp; omega
      have hw2 : 2 ≤ (wordsT t k).length := by omega
      by_cases hk0 : k = 0
      · have dk : decide (k = 0) = true := decide_eq_true hk0
        have HK0 := Lib.hid hk0
        have HOKW : Hid (okH t k = decide ((wordsT t k)[0] = segW)) := Lib.hid (by rw [okH_zero hk0, HFB.out, HG0.out]; rfl)
        obtain ⟨hb2L, SA, TA, sc, td, zs, hb2, _⟩ := id hH
        obtain ⟨p0, p1⟩ := hb2.two_
        have pz := hb2.lt
        have pf := hb2.thaw 0
        have hbb : bw ≠ b2 := by omega
        by_cases hx0 : (wordsT t k)[0] = segW
        · have HOK : Hid (okH t k = true) := Lib.hid (by rw [HOKW.out, decide_eq_true hx0])
          rw [hx0] at cw
          have e0 : (segW == [115, 101, 103, 109, 101, 110, 116, 115]) = true := by decide
          clear hx0 hk0 h1 hb2
          go_upto_region 8 with (fail)
          have cw := (World.cell?_of_block (Below.heap_setCell w2 ⟨b2, 0, none⟩ (.slice (some ⟨bw, 1, none⟩) ((wordsT t k).length - 1) ((wordsT t k).length - 1)) bw hbb)).trans cw
          have cwz : bw < (w2.setCell ⟨b2, 0, none⟩ (.slice (some ⟨bw, 1, none⟩) ((wordsT t k).length - 1) ((wordsT t k).length - 1))).heap.size := by simpa [World.setCell] using cwz
          go_wp2_with fail
          refine GOOD.out true _ (hst.set (.inl (by simp)) _) HOK.out (fun _ => ?_)
          have hk0 := HK0.out
          subst hk0
          exact ⟨hbx.past b2 0 _ hne, hb1L, hne, hH.first hbwL hkw (SA := some ⟨bw, 1, none⟩) (sc := (wordsT t 0).length - 1) (.inr rfl) (Nat.le_refl _)⟩
        · have HOK : Hid (okH t k = false) := Lib.hid (by rw [HOKW.out, decide_eq_false hx0])
          have e0 : ((wordsT t k)[0] == [115, 101, 103, 109, 101, 110, 116, 115]) = false := str_word_ne hx0
          clear hx0 hk0 h1 hb2 HG0 HOKW
          generalize (wordsT t k)[0] = x0 at *
          go_upto_region 8 with (fail)
          have cw := (World.cell?_of_block (Below.heap_setCell w2 ⟨b2, 0, none⟩ (.slice (some ⟨bw, 1, none⟩) ((wordsT t k).length - 1) ((wordsT t k).length - 1)) bw hbb)).trans cw
          have cwz : bw < (w2.setCell ⟨b2, 0, none⟩ (.slice (some ⟨bw, 1, none⟩) ((wordsT t k).length - 1) ((wordsT t k).length - 1))).heap.size := by simpa [World.setCell] using cwz
          go_wp2_with fail
          exact BAD.out _ (hst.set (.inl (by simp)) _) HOK.out
      · have dk : decide (k = 0) = false := decide_eq_false hk0
        have HKP : Hid (0 < k) := Lib.hid (by omega)
        have HOKW : Hid (okH t k = attB (wordsT t k)) := Lib.hid (by rw [okH_pos hk0, HFB.out, Bool.true_and])
        have c1 : w2.cell? ⟨bw, 1, none⟩ = some (encStr (wordsT t k)[1]) := by
          have := hkw.cell 1
          rw [this]; simp [strs, hw2]
        have C0 : Hid ((strs (wordsT t k)).toArray[0]? = some (encStr (wordsT t k)[0])) := Lib.hid (by simp [strs, hwp])
        have hx1l := HWL.out (wordsT t k)[1] (List.getElem_mem _)
        have HRS : Hid (∀ j (h : j < ((wordsT t k).drop 2).length), ((wordsT t k).drop 2)[j].length ≤ 1000000 ∧ (strs (wordsT t k)).toArray[2 + j]? = some (encStr ((wordsT t k).drop 2)[j])) := Lib.hid (fun j h => by
          have hj : 2 + j < (wordsT t k).length := by rw [List.length_drop] at h; omega
          rw [List.getElem_drop]
          exact ⟨HWL.out _ (List.getElem_mem _), by simp [strs, hj]⟩)
        have HAB : Hid (attB (wordsT t k) = (decide ((wordsT t k)[0] = attW) && (numB (wordsT t k)[1] 9 && ((wordsT t k).drop 2).all spOK)) ∧ (attB (wordsT t k) = true → attR (wordsT t k) = (numV (wordsT t k)[1] 9, ((wordsT t k).drop 2).map spX))) := Lib.hid (by
          have g1 : (wordsT t k).getD 1 [] = (wordsT t k)[1] := by rw [List.getD_eq_getElem?_getD, List.getElem?_eq_getElem (by omega)]; rfl
          have e1 : attHd (wordsT t k) = decide ((wordsT t k)[0] = attW) := by unfold attHd; rw [decide_eq_true hw2, HG0.out]; rfl
          refine ⟨by unfold attB; rw [e1, g1], fun h => ?_⟩
          unfold attB at h
          rw [Bool.and_eq_true] at h
          unfold attR
          rw [h.1, if_pos rfl, g1])
        have hrl : ((wordsT t k).drop 2).length = (wordsT t k).length - 2 := List.length_drop
        clear hk0 h1 HG0 HFB HFE HWL
        generalize (wordsT t k).drop 2 = rest at *
        generalize (wordsT t k)[0] = x0 at *
        generalize (wordsT t k)[1] = x1 at *
        by_cases hw3 : (wordsT t k).length = 2
        · have hr0 : rest = [] := List.eq_nil_of_length_eq_zero (by omega)
          subst hr0
          clear HRS hrl
          go_wp2_with fail
          refine (int_any x1 9 _ (by omega) (by omega) hE.out.env).mono ?_
          rintro e w4 ⟨rfl, hb⟩
          have hst := hst.trans (Stays.of_below hb hz)
          have hbx := hbx.below hb
          have hH := hH.below hb
          have hkw := hkw.below hb
          have hE := Lib.hid (hE.out.below (Below.mono hb (by omega)))
          have hz : L ≤ w4.heap.size := Nat.le_trans hz hb.size
          have hno := i64_numI x1
          have HNO : Hid (numB x1 9 = true → intV x1 9 = numV x1 9) := Lib.hid intV_num
          clear hb c1 cw cwz
          generalize hniv : intV x1 9 = no at *
          obtain ⟨ok0, hok0⟩ : ∃ ok0, ok0 = numB x1 9 := ⟨_, rfl⟩
          have HOK0 := Lib.hid hok0
          rw [← hok0]
          clear hok0 hniv
          obtain ⟨ba, hBA⟩ : ∃ ba, ba = w4.heap.size := ⟨_, rfl⟩
          go_wp2_with fail
          have hB : Blk (w4.alloc (.cells #[.int .i64 no, .slice none 0 0] 62)) w4.heap.size 62 #[.int .i64 no, .slice none 0 0] := Blk.new _ _ _
          have hbel : Below w4.heap.size w4 (w4.alloc (.cells #[.int .i64 no, .slice none 0 0] 62)) := (Below.refl _ _).alloc (Nat.le_refl _) (.cells #[.int .i64 no, .slice none 0 0] 62)
          have hbz : w4.heap.size < (w4.alloc (.cells #[.int .i64 no, .slice none 0 0] 62)).heap.size := by simp
          rw [← hBA] at hB hbel hbz
          simp only [← hBA]
          have hLba : L ≤ ba := by omega
          have HBA := Lib.hid hBA
          clear hBA
          generalize w4.alloc (.cells #[.int .i64 no, .slice none 0 0] 62) = w5 at *
          go_loopw [8, 56] (fun o i wr => o = .bool ok0 ∧ i = .int .i64 0 ∧ Blk wr ba 62 #[.int .i64 no, .slice none 0 0] ∧ Below ba w4 wr ∧ ba < wr.heap.size) (fun _ _ _ => 0)
          case atStart => exact ⟨rfl, rfl, hB, hbel, hbz⟩
          case round =>
            clear hB hbel hbz
            obtain ⟨rfl, rfl, hB, hbel, hbz⟩ := hrel
            have hown : wr.ownsRow ba 3 1 (.slice none ([] : List Int).length 0) ([] : List Int).length (ints []) := World.ownsRow_nil _ _ _ _
            have HLI : Hid (([] : List (List UInt8)).map spI = ([] : List Int)) := Lib.hid rfl
            have HOKE : Hid (ok0 = (numB x1 9 && ([] : List (List UInt8)).all spOK)) := Lib.hid (by rw [HOK0.out]; simp)
            have hbel' : Below w4.heap.size w4 wr := HBA.out ▸ hbel
            have hst := hst.trans (Stays.of_below hbel' hz)
            have hbx := hbx.below hbel'
            have hH := hH.below hbel'
            have hkw := hkw.below hbel'
            have hz : L ≤ wr.heap.size := Nat.le_trans hz hbel'.size
            have hown := own_weak hown (show L ≤ ba by omega)
            clear hbel hbel' hE
            obtain ⟨hb2L, SA, TA, sc, td, zs, hb2, hat, hze, hsg, hsc⟩ := hH
            have hzl : zs.length ≤ 1000001 := by
              have := congrArg List.length hze
              rw [attE_len, attsR_len] at this; omega
            obtain ⟨p0, p1⟩ := hb2.two_
            have pz := hb2.lt
            have pf := hb2.thaw 1
            obtain ⟨r0, r1⟩ := hB.two_
            have rz := hB.lt
            have hrow := hat.row
            go_wp2_with (at_builtin; go_must (refine wpList_app (lo := L) (base := L) (n := zs.length) (xs := zs.flatMap encE) _ _ rfl _ _ ty_atts rfl (by repeat (first | exact hrow | refine World.ownsRow.alloc ?_ _ | refine own_drewN ?_ _ | refine World.ownsRow.drew ?_)) rfl (by first | exact row_new' _ (by first | rfl | simp) (by first | omega | (simp; omega)) rfl | exact row_newN _ _ (by first | rfl | simp) (by first | omega | (simp; omega)) rfl | exact row_newD _ (by first | rfl | simp) (by first | omega | (simp; omega)) rfl) rfl rfl (by first | omega | decide) (by first | omega | decide) (by first | omega | (simp; omega)) ?_))
            intro A5 d5 w7 hown5 hg5 _
            have hX := (Below.refl wr.heap.size wr).alloc (Nat.le_refl _) (.cells #[.int .i64 no, .slice none 0 0] 62)
            have hst6 := hst.trans (Stays.of_below hX hz)
            have hb6 := hb2.below hX
            have hbx6 := hbx.below hX
            have hat6 := hat.below hX
            have hkw6 := hkw.below hX
            have hsg6 : (k = 0 ∨ (segsT t k).length = 0) ∨ ∃ b', L ≤ b' ∧ SA = some ⟨b', 1, none⟩ ∧ Blk (wr.alloc (.cells #[.int .i64 no, .slice none 0 0] 62)) b' 9 (strs (wordsT t 0)).toArray := hsg.imp id (fun ⟨b', e1, e2, e3⟩ => ⟨b', e1, e2, e3.below hX⟩)
            have hownl := own_keep hown hX
            have hz6 : L ≤ (wr.alloc (.cells #[.int .i64 no, .slice none 0 0] 62)).heap.size := by simp; omega
            clear hX hst hb2 hbx hat hsg hown hrow p0 p1 pz pf r0 r1 rz hkw hB
            generalize wr.alloc (.cells #[.int .i64 no, .slice none 0 0] 62) = w6 at *
            have hkd := own_kindOf hat6.row
            have hb7 := hb6.otherOf hg5 hkd (by decide)
            have hbx7 := hbx6.otherOf hg5 hkd (by decide)
            have hkw7 := hkw6.otherOf hg5 hkd (by decide)
            obtain ⟨p0, p1⟩ := hb7.two_
            have pz := hb7.lt
            have pf := hb7.thaw 1
            have hbb : bw ≠ b2 := by omega
            go_upto_region 23 with (fail)
            have hst8 : Stays L [b1, b2] W (w7.setCell ⟨b2, 1, none⟩ (.slice A5 (zs.length + 1) d5)) := Stays.set (hst6.grown hg5 hz6 (fun q hq => (hat6.row.lt q hq).1)) (.inl (by simp)) _
            have hkw8 := hkw7.past b2 1 (.slice A5 (zs.length + 1) d5) hbb
            have HPUSH : Hid (attR (wordsT t k) = (no, []) → RRf t b1 b2 L (k + 1) (w7.setCell ⟨b2, 1, none⟩ (.slice A5 (zs.length + 1) d5))) := Lib.hid (fun hr => by
              have hP := HRd.push HKP.out hb2L hb6 hat6 hze hsg6 hsc hg5 (x := ((no, []), (none, 0))) hownl hr.symm hown5
              exact ⟨by have := hbx7.past b2 1 (.slice A5 (zs.length + 1) d5) hne; simpa using this, hb1L, hne, hP⟩)
            have cw := (hkw8.cell 0).trans C0.out
            have cwz := hkw8.lt
            clear p0 p1 pz pf hkw8 hkw7 hb7 hbx7 hkw6 hb6 hbx6 hat6 hsg6 hownl hst6 hown5 hg5
            generalize w7.setCell ⟨b2, 1, none⟩ (.slice A5 (zs.length + 1) d5) = w8 at *
            obtain ⟨bq, hbq⟩ : ∃ bq, (x0 == [97, 116, 116, 101, 109, 112, 116]) = bq := ⟨_, rfl⟩
            have HBQ : Hid (decide (x0 = attW) = bq) := Lib.hid (by rw [← hbq, Bool.eq_iff_iff, decide_eq_true_eq, beq_iff_eq]; exact Iff.rfl)
            have HOKF : Hid (okH t k = (bq && ok0)) := Lib.hid (by rw [HOKW.out, HAB.out.1, HBQ.out, ← HOKE.out])
            have HFIN : Hid (okH t k = true → attR (wordsT t k) = (no, [])) := Lib.hid (fun h => by
              rw [HOKW.out] at h
              have h2 := h
              rw [HAB.out.1, Bool.and_eq_true, Bool.and_eq_true] at h2
              rw [HAB.out.2 h, HNO.out h2.2.1, ← spI_map h2.2.2, HLI.out])
            cases ok0 <;> cases bq
            all_goals
              go_wp2_with fail
              first
              | exact GOOD.out true _ hst8 (by rw [HOKF.out]; rfl) (fun _ => HPUSH.out (HFIN.out (by rw [HOKF.out]; rfl)))
              | exact BAD.out _ hst8 (by rw [HOKF.out]; rfl)
        · have hw4 : 2 < (wordsT t k).length := by omega
          go_wp2_with fail
          refine (int_any x1 9 _ (by omega) (by omega) hE.out.env).mono ?_
          rintro e w4 ⟨rfl, hb⟩
          have hst := hst.trans (Stays.of_below hb hz)
          have hbx := hbx.below hb
          have hH := hH.below hb
          have hkw := hkw.below hb
          have hE := Lib.hid (hE.out.below (Below.mono hb (by omega)))
          have hz : L ≤ w4.heap.size := Nat.le_trans hz hb.size
          have hno := i64_numI x1
          have HNO : Hid (numB x1 9 = true → intV x1 9 = numV x1 9) := Lib.hid intV_num
          clear hb c1 cw cwz
          generalize hniv : intV x1 9 = no at *
          obtain ⟨ok0, hok0⟩ : ∃ ok0, ok0 = numB x1 9 := ⟨_, rfl⟩
          have HOK0 := Lib.hid hok0
          rw [← hok0]
          clear hok0 hniv
          obtain ⟨ba, hBA⟩ : ∃ ba, ba = w4.heap.size := ⟨_, rfl⟩
          go_wp2_with fail
          have hB : Blk (w4.alloc (.cells #[.int .i64 no, .slice none 0 0] 62)) w4.heap.size 62 #[.int .i64 no, .slice none 0 0] := Blk.new _ _ _
          have hbel : Below w4.heap.size w4 (w4.alloc (.cells #[.int .i64 no, .slice none 0 0] 62)) := (Below.refl _ _).alloc (Nat.le_refl _) (.cells #[.int .i64 no, .slice none 0 0] 62)
          have hbz : w4.heap.size < (w4.alloc (.cells #[.int .i64 no, .slice none 0 0] 62)).heap.size := by simp
          rw [← hBA] at hB hbel hbz
          simp only [← hBA]
          have hLba : L ≤ ba := by omega
          have HBA := Lib.hid hBA
          clear hBA
          generalize w4.alloc (.cells #[.int .i64 no, .slice none 0 0] 62) = w5 at *
          go_loopw [8, 56] (fun o i wr => ∃ (j : Nat) (Bq : Option Addr) (cq : Nat) (l : List Int) (okj : Bool), j ≤ rest.length ∧ l.length ≤ 1000001 ∧ Hid (l.length = j ∧ l = (rest.take j).map spI ∧ okj = (numB x1 9 && (rest.take j).all spOK)) ∧ o = .bool okj ∧ i = .int .i64 j ∧ Blk wr ba 62 #[.int .i64 no, .slice Bq l.length cq] ∧ wr.ownsRow ba 3 1 (.slice Bq l.length cq) l.length (ints l) ∧ Below ba w4 wr ∧ ba < wr.heap.size) (fun _ i _ => rest.length - (intOf i).toNat)
          case atStart => exact ⟨0, none, 0, [], ok0, Nat.zero_le _, by simp, Lib.hid ⟨rfl, rfl, by rw [HOK0.out]; simp⟩, rfl, rfl, hB, World.ownsRow_nil _ _ _ _, hbel, hbz⟩
          case round =>
            clear hB hbel hbz
            obtain ⟨j, Bq, cq, l, okj, hj, hl9, HLJ, rfl, rfl, hB, hown, hbel, hbz⟩ := hrel
            by_cases hlt : j < rest.length
            · obtain ⟨hsl2, hcell⟩ := HRS.out j hlt
              have hkwr := hkw.below (HBA.out ▸ hbel)
              have hcell := (hkwr.cell (2 + j)).trans hcell
              have hbwz := hkwr.lt
              have HTK : Hid ((rest.take (j + 1)).map spI = (rest.take j).map spI ++ [spI rest[j]] ∧ (rest.take (j + 1)).all spOK = ((rest.take j).all spOK && spOK rest[j])) := Lib.hid (by rw [List.take_succ_eq_append_getElem hlt, List.map_append, List.all_append]; simp)
              clear hkwr
              generalize rest[j] = s2 at *
              go_wp2_with fail
              refine (int_any s2 9 _ (by omega) (by omega) (hE.out.below (Below.mono hbel (by omega))).env).mono ?_
              rintro e w6 ⟨rfl, hb⟩
              have hB := hB.below hb
              have hown := own_keep hown hb
              have hbel := hbel.trans (hb.mono (by omega))
              have hbz : ba < w6.heap.size := by have := hb.size; omega
              clear hb hcell hbwz
              have hni := i64_numI s2
              by_cases hs : s2 = [45]
              · have e0 : (s2 == [45]) = true := str_word_eq hs
                have HD : Hid (spOK s2 = true ∧ spI s2 = 0) := Lib.hid ⟨by rw [hs]; exact spOK_dash.1, by unfold spI; rw [if_pos hs]⟩
                clear hs
                generalize intV s2 9 = m0 at *
                generalize numB s2 9 = is at *
                obtain ⟨r0, r1⟩ := hB.two_
                have rz := hB.lt
                have rf := hB.thaw 1
                cases okj
                all_goals
                  go_wp2_with (at_builtin; go_must (refine wpList_app (lo := ba) (base := ba) (n := l.length) (xs := ints l) _ _ rfl _ _ ty_ints rfl (by repeat (first | exact hown | refine World.ownsRow.alloc ?_ _ | refine own_drewN ?_ _ | refine World.ownsRow.drew ?_)) rfl (by first | exact row_new' _ (by first | rfl | simp) (by first | omega | (simp; omega)) rfl | exact row_newN _ _ (by first | rfl | simp) (by first | omega | (simp; omega)) rfl | exact row_newD _ (by first | rfl | simp) (by first | omega | (simp; omega)) rfl) rfl rfl (by first | omega | decide) (by first | omega | decide) (by first | omega | (simp; omega)) ?_))
                  intro A5 c5 w7 hown5 hg5 _
                  have hkd := own_kindOf (hown.alloc (.cells #[.int .i64 0] 3))
                  have hB5 := (hB.alloc (.cells #[.int .i64 0] 3)).otherOf hg5 hkd (by decide)
                  have hx5 : Below ba w4 w7 := below_app (hown.alloc (.cells #[.int .i64 0] 3)) (hbel.alloc (by omega) _) hg5 (Nat.le_refl _) (by simp; omega)
                  have hz7 : ba < w7.heap.size := by have := hg5.size; simp at this; omega
                  clear r0 r1 rz rf
                  obtain ⟨r0, r1⟩ := hB5.two_
                  have rz := hB5.lt
                  have rf := hB5.thaw 1
                  go_wp2_with fail
                  go_roundw
                  case rel =>
                    refine ⟨j + 1, A5, c5, l ++ [0], _, by omega, by rw [List.length_append]; have := HLJ.out.1; simp; omega, Lib.hid ⟨by rw [List.length_append, HLJ.out.1]; rfl, by rw [HTK.out.1, ← HLJ.out.2.1, HD.out.2], by rw [HTK.out.2, ← Bool.and_assoc, ← HLJ.out.2.2, HD.out.1]; rfl⟩, rfl, by go_num, ?_, ?_, ?_, ?_⟩
                    · have := hB5.poke 1 (.slice A5 (l.length + 1) c5)
                      rw [List.length_append]; simpa using this
                    · have := own_past hown5 hB5 (by decide) 1 (.slice A5 (l.length + 1) c5)
                      rw [ints_app, List.length_append]; exact this
                    · exact Below.setCell (p := ⟨ba, 1, none⟩) hx5 (Nat.le_refl _) _
                    · simpa [World.setCell] using hz7
                  case measure => simp [intOf]; omega
              · have e0 : (s2 == [45]) = false := str_word_ne hs
                obtain ⟨sp1, sp2⟩ := spOK_int hs
                have HSP := Lib.hid sp1
                have HSI := Lib.hid sp2
                clear hs sp1 sp2
                obtain ⟨bz, hbz0⟩ : ∃ bz, (intV s2 9 == 0) = bz := ⟨_, rfl⟩
                generalize intV s2 9 = m at *
                generalize numB s2 9 = is at *
                have HSP2 : Hid (spOK s2 = (!bz && is)) := Lib.hid (by rw [HSP.out, hbz0])
                clear HSP
                obtain ⟨r0, r1⟩ := hB.two_
                have rz := hB.lt
                have rf := hB.thaw 1
                cases okj <;> cases is <;> cases bz
                all_goals
                  go_wp2_with (at_builtin; go_must (refine wpList_app (lo := ba) (base := ba) (n := l.length) (xs := ints l) _ _ rfl _ _ ty_ints rfl (by repeat (first | exact hown | refine World.ownsRow.alloc ?_ _ | refine own_drewN ?_ _ | refine World.ownsRow.drew ?_)) rfl (by first | exact row_new' _ (by first | rfl | simp) (by first | omega | (simp; omega)) rfl | exact row_newN _ _ (by first | rfl | simp) (by first | omega | (simp; omega)) rfl | exact row_newD _ (by first | rfl | simp) (by first | omega | (simp; omega)) rfl) rfl rfl (by first | omega | decide) (by first | omega | decide) (by first | omega | (simp; omega)) ?_))
                  intro A5 c5 w7 hown5 hg5 _
                  have hkd := own_kindOf (hown.alloc (.cells #[.int .i64 m] 3))
                  have hB5 := (hB.alloc (.cells #[.int .i64 m] 3)).otherOf hg5 hkd (by decide)
                  have hx5 : Below ba w4 w7 := below_app (hown.alloc (.cells #[.int .i64 m] 3)) (hbel.alloc (by omega) _) hg5 (Nat.le_refl _) (by simp; omega)
                  have hz7 : ba < w7.heap.size := by have := hg5.size; simp at this; omega
                  clear r0 r1 rz rf
                  obtain ⟨r0, r1⟩ := hB5.two_
                  have rz := hB5.lt
                  have rf := hB5.thaw 1
                  go_wp2_with fail
                  go_roundw
                  case rel =>
                    refine ⟨j + 1, A5, c5, l ++ [m], _, by omega, by rw [List.length_append]; have := HLJ.out.1; simp; omega, Lib.hid ⟨by rw [List.length_append, HLJ.out.1]; rfl, by rw [HTK.out.1, ← HLJ.out.2.1, HSI.out], by rw [HTK.out.2, ← Bool.and_assoc, ← HLJ.out.2.2, HSP2.out]; rfl⟩, rfl, by go_num, ?_, ?_, ?_, ?_⟩
                    · have := hB5.poke 1 (.slice A5 (l.length + 1) c5)
                      rw [List.length_append]; simpa using this
                    · have := own_past hown5 hB5 (by decide) 1 (.slice A5 (l.length + 1) c5)
                      rw [ints_app, List.length_append]; exact this
                    · exact Below.setCell (p := ⟨ba, 1, none⟩) hx5 (Nat.le_refl _) _
                    · simpa [World.setCell] using hz7
                  case measure => simp [intOf]; omega
            · have hjj : j = rest.length := by omega
              subst hjj
              have HLI : Hid (rest.map spI = l) := Lib.hid (by have := HLJ.out.2.1; rw [List.take_length] at this; exact this.symm)
              have HOKE : Hid (okj = (numB x1 9 && rest.all spOK)) := Lib.hid (by have := HLJ.out.2.2; rw [List.take_length] at this; exact this)
              clear HLJ
              have hbel' : Below w4.heap.size w4 wr := HBA.out ▸ hbel
              have hst := hst.trans (Stays.of_below hbel' hz)
              have hbx := hbx.below hbel'
              have hH := hH.below hbel'
              have hkw := hkw.below hbel'
              have hz : L ≤ wr.heap.size := Nat.le_trans hz hbel'.size
              have hown := own_weak hown (show L ≤ ba by omega)
              clear hbel hbel' hE
              obtain ⟨hb2L, SA, TA, sc, td, zs, hb2, hat, hze, hsg, hsc⟩ := hH
              have hzl : zs.length ≤ 1000001 := by
                have := congrArg List.length hze
                rw [attE_len, attsR_len] at this; omega
              obtain ⟨p0, p1⟩ := hb2.two_
              have pz := hb2.lt
              have pf := hb2.thaw 1
              obtain ⟨r0, r1⟩ := hB.two_
              have rz := hB.lt
              have hrow := hat.row
              go_wp2_with (at_builtin; go_must (refine wpList_app (lo := L) (base := L) (n := zs.length) (xs := zs.flatMap encE) _ _ rfl _ _ ty_atts rfl (by repeat (first | exact hrow | refine World.ownsRow.alloc ?_ _ | refine own_drewN ?_ _ | refine World.ownsRow.drew ?_)) rfl (by first | exact row_new' _ (by first | rfl | simp) (by first | omega | (simp; omega)) rfl | exact row_newN _ _ (by first | rfl | simp) (by first | omega | (simp; omega)) rfl | exact row_newD _ (by first | rfl | simp) (by first | omega | (simp; omega)) rfl) rfl rfl (by first | omega | decide) (by first | omega | decide) (by first | omega | (simp; omega)) ?_))
              intro A5 d5 w7 hown5 hg5 _
              have hX := (Below.refl wr.heap.size wr).alloc (Nat.le_refl _) (.cells #[.int .i64 no, .slice Bq l.length cq] 62)
              have hst6 := hst.trans (Stays.of_below hX hz)
              have hb6 := hb2.below hX
              have hbx6 := hbx.below hX
              have hat6 := hat.below hX
              have hkw6 := hkw.below hX
              have hsg6 : (k = 0 ∨ (segsT t k).length = 0) ∨ ∃ b', L ≤ b' ∧ SA = some ⟨b', 1, none⟩ ∧ Blk (wr.alloc (.cells #[.int .i64 no, .slice Bq l.length cq] 62)) b' 9 (strs (wordsT t 0)).toArray := hsg.imp id (fun ⟨b', e1, e2, e3⟩ => ⟨b', e1, e2, e3.below hX⟩)
              have hownl := own_keep hown hX
              have hz6 : L ≤ (wr.alloc (.cells #[.int .i64 no, .slice Bq l.length cq] 62)).heap.size := by simp; omega
              clear hX hst hb2 hbx hat hsg hown hrow p0 p1 pz pf r0 r1 rz hkw hB
              generalize wr.alloc (.cells #[.int .i64 no, .slice Bq l.length cq] 62) = w6 at *
              have hkd := own_kindOf hat6.row
              have hb7 := hb6.otherOf hg5 hkd (by decide)
              have hbx7 := hbx6.otherOf hg5 hkd (by decide)
              have hkw7 := hkw6.otherOf hg5 hkd (by decide)
              obtain ⟨p0, p1⟩ := hb7.two_
              have pz := hb7.lt
              have pf := hb7.thaw 1
              have hbb : bw ≠ b2 := by omega
              go_upto_region 23 with (fail)
              have hst8 : Stays L [b1, b2] W (w7.setCell ⟨b2, 1, none⟩ (.slice A5 (zs.length + 1) d5)) := Stays.set (hst6.grown hg5 hz6 (fun q hq => (hat6.row.lt q hq).1)) (.inl (by simp)) _
              have hkw8 := hkw7.past b2 1 (.slice A5 (zs.length + 1) d5) hbb
              have HPUSH : Hid (attR (wordsT t k) = (no, l) → RRf t b1 b2 L (k + 1) (w7.setCell ⟨b2, 1, none⟩ (.slice A5 (zs.length + 1) d5))) := Lib.hid (fun hr => by
                have hP := HRd.push HKP.out hb2L hb6 hat6 hze hsg6 hsc hg5 (x := ((no, l), (Bq, cq))) hownl hr.symm hown5
                exact ⟨by have := hbx7.past b2 1 (.slice A5 (zs.length + 1) d5) hne; simpa using this, hb1L, hne, hP⟩)
              have cw := (hkw8.cell 0).trans C0.out
              have cwz := hkw8.lt
              clear p0 p1 pz pf hkw8 hkw7 hb7 hbx7 hkw6 hb6 hbx6 hat6 hsg6 hownl hst6 hown5 hg5
              generalize w7.setCell ⟨b2, 1, none⟩ (.slice A5 (zs.length + 1) d5) = w8 at *
              obtain ⟨bq, hbq⟩ : ∃ bq, (x0 == [97, 116, 116, 101, 109, 112, 116]) = bq := ⟨_, rfl⟩
              have HBQ : Hid (decide (x0 = attW) = bq) := Lib.hid (by rw [← hbq, Bool.eq_iff_iff, decide_eq_true_eq, beq_iff_eq]; exact Iff.rfl)
              have HOKF : Hid (okH t k = (bq && okj)) := Lib.hid (by rw [HOKW.out, HAB.out.1, HBQ.out, ← HOKE.out])
              have HFIN : Hid (okH t k = true → attR (wordsT t k) = (no, l)) := Lib.hid (fun h => by
                rw [HOKW.out] at h
                have h2 := h
                rw [HAB.out.1, Bool.and_eq_true, Bool.and_eq_true] at h2
                rw [HAB.out.2 h, HNO.out h2.2.1, ← spI_map h2.2.2, HLI.out])
              cases okj <;> cases bq
              all_goals
                go_wp2_with fail
                first
                | exact GOOD.out true _ hst8 (by rw [HOKF.out]; rfl) (fun _ => HPUSH.out (HFIN.out (by rw [HOKF.out]; rfl)))
                | exact BAD.out _ hst8 (by rw [HOKF.out]; rfl)
end Go.Proofs.YtggnccafmadacaaGreatDoor
