/- Texts of this seat, laid together: Rq Tb. -/
import Derived.Handy
import Derived.Test.YtggnccafmadacaaGreatDoorBu33
import Derived.Test.YtggnccafmadacaaGreatDoorBu36
import Derived.Test.YtggnccafmadacaaGreatDoorBu24
import Derived.Test.YtggnccafmadacaaGreatDoorBu34
import Derived.Test.YtggnccafmadacaaGreatDoorBu17
/- The walks of segment.Read and splitref1.HistoryRead: both hand out the same. -/
namespace Go.Proofs.YtggnccafmadacaaGreatDoor
set_option linter.unusedVariables false
set_option linter.unusedSimpArgs false
open Go.RowKit Go.Sort

/-- What is read of a text: the segments, the attempts, the line that is wrong, the error. -/
def readV (t : List UInt8) : List (List UInt8) × List Att × Int × Int :=
  if 200000 < t.length then ([], [], 0, 2) else
  match stopL t (okH t) with
  | some i => ([], [], (i : Int), 9)
  | none => if (linesL t).length = 0 then ([], [], 0, 9) else
    if histF (segsT t (linesL t).length) (attsR t (linesL t).length) = 0 then (segsT t (linesL t).length, attsR t (linesL t).length, 0, 0) else ([], [], 0, histF (segsT t (linesL t).length) (attsR t (linesL t).length))
def ReadPost (w : World) (t : List UInt8) (e : Ending) (w' : World) : Prop :=
  ∃ (SA TA : Option Addr) (sc td : Nat), e = .returned (.tuple #[.agg #[.slice SA (readV t).1.length sc, .slice TA (readV t).2.1.length td], .int .i64 (readV t).2.2.1, .int .i64 (readV t).2.2.2]) ∧ Hist w' w.heap.size SA TA (readV t).1 (readV t).2.1 ∧ (readV t).1.length ≤ sc ∧ Below w.heap.size w w'
theorem readV_large {t : List UInt8} (h : 200000 < t.length) : readV t = ([], [], 0, 2) := by unfold readV; rw [if_pos h]
theorem readV_stop {t : List UInt8} (h : ¬ 200000 < t.length) {i : Nat} (hs : stopL t (okH t) = some i) : readV t = ([], [], (i : Int), 9) := by unfold readV; rw [if_neg h, hs]
theorem readV_none {t : List UInt8} (h : ¬ 200000 < t.length) (hs : stopL t (okH t) = none) (h0 : (linesL t).length = 0) : readV t = ([], [], 0, 9) := by unfold readV; rw [if_neg h, hs]; simp [h0]
theorem readV_bad {t : List UInt8} (h : ¬ 200000 < t.length) (hs : stopL t (okH t) = none) (h0 : (linesL t).length ≠ 0) (hf : histF (segsT t (linesL t).length) (attsR t (linesL t).length) ≠ 0) : readV t = ([], [], 0, histF (segsT t (linesL t).length) (attsR t (linesL t).length)) := by unfold readV; rw [if_neg h, hs]; simp [h0, hf]
theorem readV_ok {t : List UInt8} (h : ¬ 200000 < t.length) (hs : stopL t (okH t) = none) (h0 : (linesL t).length ≠ 0) (hf : histF (segsT t (linesL t).length) (attsR t (linesL t).length) = 0) : readV t = (segsT t (linesL t).length, attsR t (linesL t).length, 0, 0) := by unfold readV; rw [if_neg h, hs]; simp [h0, hf]
theorem Hist.none_ (w : World) (lo : Nat) (SA TA : Option Addr) : Hist w lo SA TA [] [] := ⟨Row.none_ _ _ _ _, [], Row.none_ _ _ _ _, fun i h => by simp at h⟩
theorem wordsT_len (t : List UInt8) (ht : t.length ≤ 1000000) (k : Nat) : (wordsT t k).length ≤ 1000001 ∧ ∀ x ∈ wordsT t k, x.length ≤ 1000000 := by
  have hl : ((linesL t).getD k []).length ≤ 1000000 := by
    rcases Nat.lt_or_ge k (linesL t).length with h | h
    · rw [List.getD_eq_getElem?_getD, List.getElem?_eq_getElem h]
      have := (linesL_le t).2 _ (List.getElem_mem h); simp only [Option.getD_some]; omega
    · rw [List.getD_eq_getElem?_getD, List.getElem?_eq_none h]; simp
  unfold wordsT
  refine ⟨?_, fun x hx => Nat.le_trans (cutAt_sum 32 _ x hx) hl⟩
  rw [cutAt_len]
  have := List.count_le_length (a := (32 : UInt8)) (l := (linesL t).getD k [])
  omega
theorem attR_len (ws : List (List UInt8)) : (attR ws).2.length ≤ ws.length := by
  unfold attR
  split
  · simp
  · simp
/-- Sizes of what is read. -/
theorem read_sz (t : List UInt8) (ht : t.length ≤ 1000000) (c : Nat) (hc : (segsT t (linesL t).length).length ≤ c) : HistSz (segsT t (linesL t).length) (attsR t (linesL t).length) c := by
  have hll := linesL_le t
  refine ⟨hc, ?_, ?_, fun i h => ?_, fun s hs => ?_⟩
  · have := (wordsT_len t ht 0).1
    unfold segsT
    split
    · simp
    · rw [List.length_drop]; omega
  · rw [attsR_len]; omega
  · have e : (attsR t (linesL t).length)[i] = attR (wordsT t (i + 1)) := by simp [attsR]
    rw [e]
    have h1 := attR_len (wordsT t (i + 1))
    have h2 := (wordsT_len t ht (i + 1)).1
    omega
  · unfold segsT at hs
    split at hs
    · cases hs
    · have := (wordsT_len t ht 0).2 s (List.mem_of_mem_drop hs); omega
/-- The history that is read, in memory. -/
theorem HRd.hist {t : List UInt8} {L k b lo : Nat} {W : World} (h : HRd t L k b W) (hl : lo ≤ L) (hk : 0 < k) : ∃ (SA TA : Option Addr) (sc td : Nat), Blk W b 56 #[.slice SA (segsT t k).length sc, .slice TA (attsR t k).length td] ∧ Hist W lo SA TA (segsT t k) (attsR t k) ∧ (segsT t k).length ≤ sc := by
  obtain ⟨h0, SA, TA, sc, td, zs, h1, h2, h3, h4, h5⟩ := h
  have hn : zs.length = (attsR t k).length := by rw [← h3, attE_len]
  refine ⟨SA, TA, sc, td, by rw [← hn]; exact h1, ⟨?_, ?_⟩, h5⟩
  · rcases h4 with h4 | ⟨b', e1, e2, e3⟩
    · have h6 : (segsT t k).length = 0 := h4.resolve_left (by omega)
      have h7 := List.eq_nil_of_length_eq_zero h6
      rw [h7]; exact Row.none_ _ _ _ _
    · have e : segsT t k = (wordsT t 0).drop 1 := by unfold segsT; rw [if_neg (by omega)]
      rw [e, e2]
      refine ⟨by rw [strs_len, Nat.mul_one], fun hp => ⟨b', 1, rfl, by omega, e3.lt, fun j u hu => ?_⟩⟩
      have := e3.cell (1 + j)
      rw [this]
      simp only [strs, List.getElem?_map, List.getElem?_drop, List.getElem?_toArray] at hu ⊢
      exact hu
  · have hh := (h2.row)
    refine ⟨zs.flatMap encE, by rw [← hn]; exact (Row.of_own h2.row).weak hl, fun i hi => ?_⟩
    have hi' : i < zs.length := by omega
    have e : (attsR t k)[i] = zs[i].1 := by simp only [← h3]; simp [attE]
    rw [e]
    exact ⟨zs[i].2.1, zs[i].2.2, (encE_at zs i hi').1, (encE_at zs i hi').2, (Row.of_own (h2.spl _ (List.getElem_mem _))).weak hl⟩
set_option maxHeartbeats 8000000 in
set_option maxRecDepth 100000 in
theorem Read_any (t : List UInt8) (w : World) (ht : t.length ≤ 1000000) (hE : Env w) :
    Calls Tryz.prog 38 #[encStr t] w (ReadPost w t) := by
  have EARLY : Hid (∀ i e W', readV t = ([], [], i, e) → Below w.heap.size w W' → ReadPost w t (.returned (.tuple #[.agg #[.slice none 0 0, .slice none 0 0], .int .i64 i, .int .i64 e])) W') := Lib.hid (fun i e W' h hb => by
    refine ⟨none, none, 0, 0, ?_, ?_, ?_, hb⟩
    · rw [h]; rfl
    · rw [h]; exact Hist.none_ _ _ _ _
    · rw [h]; exact Nat.le_refl _)
  have LATE : Hid (∀ SA TA sc td W', readV t = (segsT t (linesL t).length, attsR t (linesL t).length, 0, 0) → Hist W' w.heap.size SA TA (segsT t (linesL t).length) (attsR t (linesL t).length) → (segsT t (linesL t).length).length ≤ sc → Below w.heap.size w W' → ReadPost w t (.returned (.tuple #[.agg #[.slice SA (segsT t (linesL t).length).length sc, .slice TA (attsR t (linesL t).length).length td], .int .i64 0, .int .i64 0])) W') := Lib.hid (fun SA TA sc td W' h hh hc hb => by
    refine ⟨SA, TA, sc, td, ?_, ?_, ?_, hb⟩
    · rw [h]
    · rw [h]; exact hh
    · rw [h]; exact hc)
  generalize hP : ReadPost w t = Post at *
  clear hP
  have hEB := EnvB.of hE
  by_cases hbig : 200000 < t.length
  · have hd : decide ((200000 : Int) < (t.length : Int)) = true := by simp; omega
    have HV := Lib.hid (readV_large hbig)
    clear hbig
    go_enter Tryz.func38, Tryz.ntmps38
    go_upto_region 1 with (fail)
    have kR : Blk (w.alloc (.cells #[.slice none 0 0, .slice none 0 0] 56)) w.heap.size 56 #[.slice none 0 0, .slice none 0 0] := Blk.new _ _ _
    have hx : Below w.heap.size w (w.alloc (.cells #[.slice none 0 0, .slice none 0 0] 56)) := (Below.refl _ _).alloc (Nat.le_refl _) (.cells #[.slice none 0 0, .slice none 0 0] 56)
    generalize w.alloc (.cells #[.slice none 0 0, .slice none 0 0] 56) = w0 at *
    obtain ⟨q0, q1⟩ := kR.two_
    have qz := kR.lt
    have qf0 := kR.thaw 0
    have qf1 := kR.thaw 1
    obtain ⟨z0, z1, z2⟩ := kR.two2 (.slice none 0 0) (.slice none 0 0)
    go_wp2_with fail
    refine bodyPost_ret (v := .tuple #[.agg #[.slice none 0 0, .slice none 0 0], .int .i64 0, .int .i64 2]) (by simp [results, Tryz.results38, go_sem, z0, z1, z2]) rfl ?_
    exact EARLY.out 0 2 _ HV.out (Below.setCell (p := ⟨w.heap.size, 1, none⟩) (Below.setCell (p := ⟨w.heap.size, 0, none⟩) hx (Nat.le_refl _) _) (Nat.le_refl _) _)
  · have hd : decide ((200000 : Int) < (t.length : Int)) = false := by simp; omega
    have HBIG := Lib.hid hbig
    clear hbig
    go_enter Tryz.func38, Tryz.ntmps38
    go_upto_region 1 with (fail)
    have kR : Blk (w.alloc (.cells #[.slice none 0 0, .slice none 0 0] 56)) w.heap.size 56 #[.slice none 0 0, .slice none 0 0] := Blk.new _ _ _
    have hx : Below w.heap.size w (w.alloc (.cells #[.slice none 0 0, .slice none 0 0] 56)) := (Below.refl _ _).alloc (Nat.le_refl _) (.cells #[.slice none 0 0, .slice none 0 0] 56)
    have hz0 : w.heap.size < (w.alloc (.cells #[.slice none 0 0, .slice none 0 0] 56)).heap.size := by simp
    generalize w.alloc (.cells #[.slice none 0 0, .slice none 0 0] 56) = w0 at *
    go_upto_region 4 with (fail)
    have kH : Blk (w0.alloc (.cells #[.slice none 0 0, .slice none 0 0] 56)) w0.heap.size 56 #[.slice none 0 0, .slice none 0 0] := Blk.new _ _ _
    have kR := kR.alloc (.cells #[.slice none 0 0, .slice none 0 0] 56)
    have hx := hx.alloc (by omega) (.cells #[.slice none 0 0, .slice none 0 0] 56)
    have hz1 : w0.heap.size < (w0.alloc (.cells #[.slice none 0 0, .slice none 0 0] 56)).heap.size := by simp
    obtain ⟨b2, hb2⟩ : ∃ b2, b2 = w0.heap.size := ⟨_, rfl⟩
    rw [← hb2] at kH hz1
    simp only [← hb2]
    have hb2l : w.heap.size < b2 := by omega
    generalize w0.alloc (.cells #[.slice none 0 0, .slice none 0 0] 56) = w1 at *
    clear hb2 hz0
    go_upto_region 5 with (fail)
    have kL : Blk (w1.alloc (.cells #[.int .i64 0] 3)) w1.heap.size 3 #[.int .i64 0] := Blk.new _ _ _
    have kR := kR.alloc (.cells #[.int .i64 0] 3)
    have kH := kH.alloc (.cells #[.int .i64 0] 3)
    have hx := hx.alloc (by omega) (.cells #[.int .i64 0] 3)
    have hz2 : w1.heap.size < (w1.alloc (.cells #[.int .i64 0] 3)).heap.size := by simp
    obtain ⟨b1, hb1⟩ : ∃ b1, b1 = w1.heap.size := ⟨_, rfl⟩
    rw [← hb1] at kL hz2
    simp only [← hb1]
    have hb1l : b2 < b1 := by omega
    generalize w1.alloc (.cells #[.int .i64 0] 3) = w2 at *
    clear hb1 hz1
    have hEB2 := hEB.below hx
    have hsx := hx.size
    go_wp2_with fail
    refine (eachHisP_any b1 b2 t w2 w.heap.size (okH t) (RPr t b1 b2) (by omega) hEB2 (by omega) ?_ ?_ ?_ ?_).mono ?_
    · intro x hx2
      simp only [List.mem_cons, List.not_mem_nil, or_false] at hx2
      rcases hx2 with rfl | rfl
      · exact ⟨by omega, kL.lt⟩
      · exact ⟨by omega, kH.lt⟩
    · intro L W h1 h2 h3
      exact ⟨kL.below h3, by have := kL.lt; omega, by omega, HRd.start (kH.below h3) (by have := kH.lt; omega)⟩
    · intro L k W ⟨h1, h2, h3, h4⟩
      exact ⟨h1, h2, h3, h4.below (Below.refl _ _).drew⟩
    · intro L k W hk h1 h2 h3 h4
      have := readCl_any t b1 b2 w.heap.size L k W (by omega) hk h2 h3 (by omega) (by omega) h4
      exact this
    rintro e w3 ⟨hst, rfl, hR⟩
    have kR3 : Blk w3 w.heap.size 56 #[.slice none 0 0, .slice none 0 0] := (hst.block w.heap.size kR.lt (by simp; omega)).trans kR
    have hx3 : Below w.heap.size w w3 := hx.trans (hst.below (B := w.heap.size) hsx (fun x hx2 => by
      simp only [List.mem_cons, List.not_mem_nil, or_false] at hx2
      rcases hx2 with rfl | rfl <;> omega))
    clear kR kL kH hEB2 hst
    obtain ⟨q0, q1⟩ := kR3.two_
    have qz := kR3.lt
    have qf0 := kR3.thaw 0
    have qf1 := kR3.thaw 1
    obtain ⟨z0, z1, z2⟩ := kR3.two2 (.slice none 0 0) (.slice none 0 0)
    cases hs : stopL t (okH t) with
    | some i =>
      have HV := Lib.hid (readV_stop HBIG.out hs)
      clear hR hs
      simp only [eachV]
      go_wp2_with fail
      refine bodyPost_ret (v := .tuple #[.agg #[.slice none 0 0, .slice none 0 0], .int .i64 i, .int .i64 9]) (by simp [results, Tryz.results38, go_sem, z0, z1, z2]) rfl ?_
      exact EARLY.out i 9 _ HV.out (Below.setCell (p := ⟨w.heap.size, 1, none⟩) (Below.setCell (p := ⟨w.heap.size, 0, none⟩) hx3 (Nat.le_refl _) _) (Nat.le_refl _) _)
    | none =>
      obtain ⟨L, hL, hR⟩ := hR hs
      have HS := Lib.hid hs
      simp only [eachV]
      obtain ⟨hbx, hb1L, hne, hH⟩ := hR
      clear hs
      have cz := hbx.lt
      by_cases hn0 : (linesL t).length = 0
      · have HV := Lib.hid (readV_none HBIG.out HS.out hn0)
        obtain ⟨cx, _⟩ : w3.cell? ⟨b1, 0, none⟩ = some (.int .i64 0) ∧ True := ⟨by rw [hn0] at hbx; simpa using hbx.cell 0, trivial⟩
        clear hn0
        go_wp2_with fail
        refine bodyPost_ret (v := .tuple #[.agg #[.slice none 0 0, .slice none 0 0], .int .i64 0, .int .i64 9]) (by simp [results, Tryz.results38, go_sem, z0, z1, z2]) rfl ?_
        exact EARLY.out 0 9 _ HV.out (Below.setCell (p := ⟨w.heap.size, 1, none⟩) (Below.setCell (p := ⟨w.heap.size, 0, none⟩) hx3 (Nat.le_refl _) _) (Nat.le_refl _) _)
      · have HN0 := Lib.hid hn0
        obtain ⟨cx, _⟩ : w3.cell? ⟨b1, 0, none⟩ = some (.int .i64 ((linesL t).length : Nat)) ∧ True := ⟨by simpa using hbx.cell 0, trivial⟩
        have dn : (((linesL t).length : Int) == 0) = false := by rw [beq_eq_false_iff_ne]; omega
        obtain ⟨SA, TA, sc, td, kH, hh, hsc⟩ := hH.hist (lo := w.heap.size + 1) (by omega) (by omega)
        have hsz := read_sz t (by omega) sc hsc
        obtain ⟨p0, p1⟩ := kH.two_
        have pz := kH.lt
        clear hn0 hH hbx
        generalize hlT : segsT t (linesL t).length = S at *
        generalize hlA : attsR t (linesL t).length = T at *
        have HLT := Lib.hid hlT
        have HLA := Lib.hid hlA
        clear hlT hlA
        go_wp2_with fail
        refine (checkHistory_any SA TA sc td _ S T _ hh hsz.hc hsz.h9 hsz.h8 hsz.h7 hsz.h6).mono ?_
        rintro e w4 ⟨rfl, hb⟩
        have kH := kH.below hb
        have kR4 := kR3.below hb
        have hh := hh.below hb
        have hx4 := below_up hx3 hb
        clear hb q0 q1 qz qf0 qf1 z0 z1 z2 p0 p1 pz
        obtain ⟨q0, q1⟩ := kR4.two_
        have qz := kR4.lt
        have qf0 := kR4.thaw 0
        have qf1 := kR4.thaw 1
        by_cases hf : histF S T = 0
        · have HV : Hid (readV t = (S, T, 0, 0)) := Lib.hid (by rw [← HLT.out, ← HLA.out] at hf ⊢; exact readV_ok HBIG.out HS.out HN0.out hf)
          rw [hf]
          clear hf
          obtain ⟨z0, z1, z2⟩ := kR4.two2 (.slice SA S.length sc) (.slice TA T.length td)
          obtain ⟨p0, p1⟩ := kH.two_
          have pz := kH.lt
          go_wp2_with fail
          refine bodyPost_ret (v := .tuple #[.agg #[.slice SA S.length sc, .slice TA T.length td], .int .i64 0, .int .i64 0]) (by simp [results, Tryz.results38, go_sem, z0, z1, z2]) rfl ?_
          have hfin := LATE.out SA TA sc td ((w4.setCell ⟨w.heap.size, 0, none⟩ (.slice SA S.length sc)).setCell ⟨w.heap.size, 1, none⟩ (.slice TA T.length td))
          refine hfin HV.out ?_ hsc (Below.setCell (p := ⟨w.heap.size, 1, none⟩) (Below.setCell (p := ⟨w.heap.size, 0, none⟩) hx4 (Nat.le_refl _) _) (Nat.le_refl _) _)
          exact (hh.two kR4 (Nat.lt_succ_self _) _ _).weak (Nat.le_succ _)
        · have HV : Hid (readV t = ([], [], 0, histF S T)) := Lib.hid (by rw [← HLT.out, ← HLA.out] at hf ⊢; exact readV_bad HBIG.out HS.out HN0.out hf)
          have df : (histF S T != 0) = true := by simpa using hf
          obtain ⟨z0, z1, z2⟩ := kR4.two2 (.slice none 0 0) (.slice none 0 0)
          clear hf
          generalize hff : histF S T = ff at *
          clear hff
          go_wp2_with fail
          refine bodyPost_ret (v := .tuple #[.agg #[.slice none 0 0, .slice none 0 0], .int .i64 0, .int .i64 ff]) (by simp [results, Tryz.results38, go_sem, z0, z1, z2]) rfl ?_
          exact EARLY.out 0 ff _ HV.out (Below.setCell (p := ⟨w.heap.size, 1, none⟩) (Below.setCell (p := ⟨w.heap.size, 0, none⟩) hx4 (Nat.le_refl _) _) (Nat.le_refl _) _)
set_option maxHeartbeats 8000000 in
set_option maxRecDepth 100000 in
theorem HistoryRead_any (t : List UInt8) (w : World) (ht : t.length ≤ 1000000) (hE : Env w) :
    Calls Tryz.prog 39 #[encStr t] w (ReadPost w t) := by
  have EARLY : Hid (∀ i e W', readV t = ([], [], i, e) → Below w.heap.size w W' → ReadPost w t (.returned (.tuple #[.agg #[.slice none 0 0, .slice none 0 0], .int .i64 i, .int .i64 e])) W') := Lib.hid (fun i e W' h hb => by
    refine ⟨none, none, 0, 0, ?_, ?_, ?_, hb⟩
    · rw [h]; rfl
    · rw [h]; exact Hist.none_ _ _ _ _
    · rw [h]; exact Nat.le_refl _)
  have LATE : Hid (∀ SA TA sc td W', readV t = (segsT t (linesL t).length, attsR t (linesL t).length, 0, 0) → Hist W' w.heap.size SA TA (segsT t (linesL t).length) (attsR t (linesL t).length) → (segsT t (linesL t).length).length ≤ sc → Below w.heap.size w W' → ReadPost w t (.returned (.tuple #[.agg #[.slice SA (segsT t (linesL t).length).length sc, .slice TA (attsR t (linesL t).length).length td], .int .i64 0, .int .i64 0])) W') := Lib.hid (fun SA TA sc td W' h hh hc hb => by
    refine ⟨SA, TA, sc, td, ?_, ?_, ?_, hb⟩
    · rw [h]
    · rw [h]; exact hh
    · rw [h]; exact hc)
  generalize hP : ReadPost w t = Post at *
  clear hP
  have hEB := EnvB.of hE
  by_cases hbig : 200000 < t.length
  · have hd : decide ((200000 : Int) < (t.length : Int)) = true := by simp; omega
    have HV := Lib.hid (readV_large hbig)
    clear hbig
    go_enter Tryz.func39, Tryz.ntmps39
    go_upto_region 1 with (fail)
    have kR : Blk (w.alloc (.cells #[.slice none 0 0, .slice none 0 0] 56)) w.heap.size 56 #[.slice none 0 0, .slice none 0 0] := Blk.new _ _ _
    have hx : Below w.heap.size w (w.alloc (.cells #[.slice none 0 0, .slice none 0 0] 56)) := (Below.refl _ _).alloc (Nat.le_refl _) (.cells #[.slice none 0 0, .slice none 0 0] 56)
    generalize w.alloc (.cells #[.slice none 0 0, .slice none 0 0] 56) = w0 at *
    obtain ⟨q0, q1⟩ := kR.two_
    have qz := kR.lt
    have qf0 := kR.thaw 0
    have qf1 := kR.thaw 1
    obtain ⟨z0, z1, z2⟩ := kR.two2 (.slice none 0 0) (.slice none 0 0)
    go_wp2_with fail
    refine bodyPost_ret (v := .tuple #[.agg #[.slice none 0 0, .slice none 0 0], .int .i64 0, .int .i64 2]) (by simp [results, Tryz.results39, go_sem, z0, z1, z2]) rfl ?_
    exact EARLY.out 0 2 _ HV.out (Below.setCell (p := ⟨w.heap.size, 1, none⟩) (Below.setCell (p := ⟨w.heap.size, 0, none⟩) hx (Nat.le_refl _) _) (Nat.le_refl _) _)
  · have hd : decide ((200000 : Int) < (t.length : Int)) = false := by simp; omega
    have HBIG := Lib.hid hbig
    clear hbig
    go_enter Tryz.func39, Tryz.ntmps39
    go_upto_region 1 with (fail)
    have kR : Blk (w.alloc (.cells #[.slice none 0 0, .slice none 0 0] 56)) w.heap.size 56 #[.slice none 0 0, .slice none 0 0] := Blk.new _ _ _
    have hx : Below w.heap.size w (w.alloc (.cells #[.slice none 0 0, .slice none 0 0] 56)) := (Below.refl _ _).alloc (Nat.le_refl _) (.cells #[.slice none 0 0, .slice none 0 0] 56)
    have hz0 : w.heap.size < (w.alloc (.cells #[.slice none 0 0, .slice none 0 0] 56)).heap.size := by simp
    generalize w.alloc (.cells #[.slice none 0 0, .slice none 0 0] 56) = w0 at *
    go_upto_region 4 with (fail)
    have kH : Blk (w0.alloc (.cells #[.slice none 0 0, .slice none 0 0] 56)) w0.heap.size 56 #[.slice none 0 0, .slice none 0 0] := Blk.new _ _ _
    have kR := kR.alloc (.cells #[.slice none 0 0, .slice none 0 0] 56)
    have hx := hx.alloc (by omega) (.cells #[.slice none 0 0, .slice none 0 0] 56)
    have hz1 : w0.heap.size < (w0.alloc (.cells #[.slice none 0 0, .slice none 0 0] 56)).heap.size := by simp
    obtain ⟨b2, hb2⟩ : ∃ b2, b2 = w0.heap.size := ⟨_, rfl⟩
    rw [← hb2] at kH hz1
    simp only [← hb2]
    have hb2l : w.heap.size < b2 := by omega
    generalize w0.alloc (.cells #[.slice none 0 0, .slice none 0 0] 56) = w1 at *
    clear hb2 hz0
    go_upto_region 5 with (fail)
    have kL : Blk (w1.alloc (.cells #[.bool true] 4)) w1.heap.size 4 #[.bool true] := Blk.new _ _ _
    have kR := kR.alloc (.cells #[.bool true] 4)
    have kH := kH.alloc (.cells #[.bool true] 4)
    have hx := hx.alloc (by omega) (.cells #[.bool true] 4)
    have hz2 : w1.heap.size < (w1.alloc (.cells #[.bool true] 4)).heap.size := by simp
    obtain ⟨b1, hb1⟩ : ∃ b1, b1 = w1.heap.size := ⟨_, rfl⟩
    rw [← hb1] at kL hz2
    simp only [← hb1]
    have hb1l : b2 < b1 := by omega
    generalize w1.alloc (.cells #[.bool true] 4) = w2 at *
    clear hb1 hz1
    have hEB2 := hEB.below hx
    have hsx := hx.size
    go_wp2_with fail
    refine (rlinesHisR_any b1 b2 t w2 w.heap.size (okH t) (RRf t b1 b2) (by omega) hEB2 (by omega) ?_ ?_ ?_ ?_).mono ?_
    · intro x hx2
      simp only [List.mem_cons, List.not_mem_nil, or_false] at hx2
      rcases hx2 with rfl | rfl
      · exact ⟨by omega, kL.lt⟩
      · exact ⟨by omega, kH.lt⟩
    · intro L W h1 h2 h3
      exact ⟨kL.below h3, by have := kL.lt; omega, by omega, HRd.start (kH.below h3) (by have := kH.lt; omega)⟩
    · intro L k W ⟨h1, h2, h3, h4⟩
      exact ⟨h1, h2, h3, h4.below (Below.refl _ _).drew⟩
    · intro L k W hk h1 h2 h3 h4
      have := refCl_any t b1 b2 w.heap.size L k W (by omega) hk h2 h3 (by omega) (by omega) (by omega) h4
      exact this
    rintro e w3 ⟨hst, rfl, hR⟩
    have kR3 : Blk w3 w.heap.size 56 #[.slice none 0 0, .slice none 0 0] := (hst.block w.heap.size kR.lt (by simp; omega)).trans kR
    have hx3 : Below w.heap.size w w3 := hx.trans (hst.below (B := w.heap.size) hsx (fun x hx2 => by
      simp only [List.mem_cons, List.not_mem_nil, or_false] at hx2
      rcases hx2 with rfl | rfl <;> omega))
    clear kR kL kH hEB2 hst
    obtain ⟨q0, q1⟩ := kR3.two_
    have qz := kR3.lt
    have qf0 := kR3.thaw 0
    have qf1 := kR3.thaw 1
    obtain ⟨z0, z1, z2⟩ := kR3.two2 (.slice none 0 0) (.slice none 0 0)
    cases hs : stopL t (okH t) with
    | some i =>
      have HV := Lib.hid (readV_stop HBIG.out hs)
      clear hR hs
      simp only [eachV]
      go_wp2_with fail
      refine bodyPost_ret (v := .tuple #[.agg #[.slice none 0 0, .slice none 0 0], .int .i64 i, .int .i64 9]) (by simp [results, Tryz.results39, go_sem, z0, z1, z2]) rfl ?_
      exact EARLY.out i 9 _ HV.out (Below.setCell (p := ⟨w.heap.size, 1, none⟩) (Below.setCell (p := ⟨w.heap.size, 0, none⟩) hx3 (Nat.le_refl _) _) (Nat.le_refl _) _)
    | none =>
      obtain ⟨L, hL, hR⟩ := hR hs
      have HS := Lib.hid hs
      simp only [eachV]
      obtain ⟨hbx, hb1L, hne, hH⟩ := hR
      clear hs
      have cz := hbx.lt
      by_cases hn0 : (linesL t).length = 0
      · have HV := Lib.hid (readV_none HBIG.out HS.out hn0)
        have e0 : t.isEmpty = true := by
          cases t with
          | nil => rfl
          | cons a r => exact absurd (List.eq_nil_of_length_eq_zero hn0) (linesL_ne (by simp))
        clear hn0
        go_wp2_with fail
        refine bodyPost_ret (v := .tuple #[.agg #[.slice none 0 0, .slice none 0 0], .int .i64 0, .int .i64 9]) (by simp [results, Tryz.results39, go_sem, z0, z1, z2]) rfl ?_
        exact EARLY.out 0 9 _ HV.out (Below.setCell (p := ⟨w.heap.size, 1, none⟩) (Below.setCell (p := ⟨w.heap.size, 0, none⟩) hx3 (Nat.le_refl _) _) (Nat.le_refl _) _)
      · have HN0 := Lib.hid hn0
        have e0 : t.isEmpty = false := by
          cases t with
          | nil => exact absurd rfl hn0
          | cons a r => rfl
        obtain ⟨SA, TA, sc, td, kH, hh, hsc⟩ := hH.hist (lo := w.heap.size + 1) (by omega) (by omega)
        have hsz := read_sz t (by omega) sc hsc
        obtain ⟨p0, p1⟩ := kH.two_
        have pz := kH.lt
        clear hn0 hH hbx
        generalize hlT : segsT t (linesL t).length = S at *
        generalize hlA : attsR t (linesL t).length = T at *
        have HLT := Lib.hid hlT
        have HLA := Lib.hid hlA
        clear hlT hlA
        go_wp2_with fail
        refine (historyFault_any SA TA sc td _ S T _ hh hsz.hc hsz.h9 hsz.h8 hsz.h7 hsz.h6).mono ?_
        rintro e w4 ⟨rfl, hb⟩
        have kH := kH.below hb
        have kR4 := kR3.below hb
        have hh := hh.below hb
        have hx4 := below_up hx3 hb
        clear hb q0 q1 qz qf0 qf1 z0 z1 z2 p0 p1 pz
        obtain ⟨q0, q1⟩ := kR4.two_
        have qz := kR4.lt
        have qf0 := kR4.thaw 0
        have qf1 := kR4.thaw 1
        by_cases hf : histF S T = 0
        · have HV : Hid (readV t = (S, T, 0, 0)) := Lib.hid (by rw [← HLT.out, ← HLA.out] at hf ⊢; exact readV_ok HBIG.out HS.out HN0.out hf)
          rw [hf]
          clear hf
          obtain ⟨z0, z1, z2⟩ := kR4.two2 (.slice SA S.length sc) (.slice TA T.length td)
          obtain ⟨p0, p1⟩ := kH.two_
          have pz := kH.lt
          go_wp2_with fail
          refine bodyPost_ret (v := .tuple #[.agg #[.slice SA S.length sc, .slice TA T.length td], .int .i64 0, .int .i64 0]) (by simp [results, Tryz.results39, go_sem, z0, z1, z2]) rfl ?_
          have hfin := LATE.out SA TA sc td ((w4.setCell ⟨w.heap.size, 0, none⟩ (.slice SA S.length sc)).setCell ⟨w.heap.size, 1, none⟩ (.slice TA T.length td))
          refine hfin HV.out ?_ hsc (Below.setCell (p := ⟨w.heap.size, 1, none⟩) (Below.setCell (p := ⟨w.heap.size, 0, none⟩) hx4 (Nat.le_refl _) _) (Nat.le_refl _) _)
          exact (hh.two kR4 (Nat.lt_succ_self _) _ _).weak (Nat.le_succ _)
        · have HV : Hid (readV t = ([], [], 0, histF S T)) := Lib.hid (by rw [← HLT.out, ← HLA.out] at hf ⊢; exact readV_bad HBIG.out HS.out HN0.out hf)
          have df : (histF S T != 0) = true := by simpa using hf
          obtain ⟨z0, z1, z2⟩ := kR4.two2 (.slice none 0 0) (.slice none 0 0)
          clear hf
          generalize hff : histF S T = ff at *
          clear hff
          go_wp2_with fail
          refine bodyPost_ret (v := .tuple #[.agg #[.slice none 0 0, .slice none 0 0], .int .i64 0, .int .i64 ff]) (by simp [results, Tryz.results39, go_sem, z0, z1, z2]) rfl ?_
          exact EARLY.out 0 ff _ HV.out (Below.setCell (p := ⟨w.heap.size, 1, none⟩) (Below.setCell (p := ⟨w.heap.size, 0, none⟩) hx4 (Nat.le_refl _) _) (Nat.le_refl _) _)
end Go.Proofs.YtggnccafmadacaaGreatDoor
/- Plain laws: a history that is written is read again; what is read is written so. -/
namespace Go.Proofs.YtggnccafmadacaaGreatDoor
set_option linter.unusedVariables false
set_option linter.unusedSimpArgs false
open Go.RowKit Go.Sort

/-! ### numbers -/
theorem decDigits_unsign (u : Nat) : unsign (Lib.decDigits u) = Lib.decDigits u := by
  have h := (decDigits_digs u).1
  cases hd : Lib.decDigits u with
  | nil => exact absurd hd (decDigits_ne u)
  | cons b r =>
    rw [hd] at h
    refine unsign_pos b r ?_
    rintro rfl
    have := (List.all_eq_true.1 h) 45 (by simp)
    revert this; decide
theorem valS_dec (u : Nat) : valS (Lib.decDigits u) = u := by
  have h := (decDigits_digs u)
  have hu := decDigits_unsign u
  have hh : (Lib.decDigits u).head? ≠ some 45 := by
    cases hd : Lib.decDigits u with
    | nil => simp
    | cons b r =>
      rw [hd] at h
      intro e
      have : b = 45 := by simpa using e
      subst this
      have := (List.all_eq_true.1 h.1) 45 (by simp)
      revert this; decide
  unfold valS
  rw [if_neg hh, hu, h.2]
theorem numB_dec (u m : Nat) (h : u < 10 ^ m) (hm : 1 ≤ m) : numB (Lib.decDigits u) m = true := by
  have hd := (decDigits_digs u).1
  have hu := decDigits_unsign u
  have hl : (Lib.decDigits u).length ≤ m := by rw [Lib.decDigits_length]; exact nDigits_le m u h hm
  have hp : 1 ≤ (Lib.decDigits u).length := by rw [Lib.decDigits_length]; exact Lib.nDigits_pos u
  have key := itoa_valS (Lib.decDigits u) (by rw [hu]; exact hd) (by rw [hu]; exact decDigits_ne u)
  rw [valS_dec, Lib.itoa_nonneg, decide_eq_true rfl] at key
  unfold numB
  rw [← key, hu, hd, decide_eq_true hl, decide_eq_true hp]; rfl
theorem numB_itoaN (n : Int) (h0 : 0 ≤ n) (h1 : n < 1000000000) : numB (Lib.itoa n) 9 = true ∧ numV (Lib.itoa n) 9 = n := by
  obtain ⟨u, rfl⟩ := Int.eq_ofNat_of_zero_le h0
  rw [Lib.itoa_nonneg]
  have hb := numB_dec u 9 (by have : (10 : Nat) ^ 9 = 1000000000 := by decide
                              omega) (by decide)
  refine ⟨hb, ?_⟩
  unfold numV
  rw [hb, if_pos rfl, valS_dec]
theorem itoa_numV {s : List UInt8} {m : Nat} (h : numB s m = true) : Lib.itoa (numV s m) = s := by
  have h' := h
  unfold numB at h
  simp only [Bool.and_eq_true, decide_eq_true_eq] at h
  have hn : unsign s ≠ [] := by intro e; rw [e] at h; simp at h
  have e := itoa_valS s h.1.1.1 hn
  rw [h.2] at e
  unfold numV
  rw [h', if_pos rfl]
  exact of_decide_eq_true e
/-- Which bytes a number has. -/
theorem dec_bytes (u : Nat) : ∀ b ∈ Lib.decDigits u, 48 ≤ b.toNat ∧ b.toNat ≤ 57 := by
  intro b hb
  have := (List.all_eq_true.1 (decDigits_digs u).1) b hb
  simpa using this
theorem spT_free (n : Int) (h0 : 0 ≤ n) : (10 : UInt8) ∉ spT n ∧ (32 : UInt8) ∉ spT n ∧ spT n ≠ [] := by
  unfold spT
  split
  · decide
  · obtain ⟨u, rfl⟩ := Int.eq_ofNat_of_zero_le h0
    rw [Lib.itoa_nonneg]
    refine ⟨fun h => ?_, fun h => ?_, decDigits_ne u⟩
    · have := dec_bytes u 10 h; revert this; decide
    · have := dec_bytes u 32 h; revert this; decide
theorem spT_read (n : Int) (h0 : 0 ≤ n) (h1 : n ≤ 864000000) : spOK (spT n) = true ∧ spX (spT n) = n := by
  unfold spT
  split
  · rename_i h; subst h; exact spOK_dash
  · rename_i h
    obtain ⟨hb, hv⟩ := numB_itoaN n h0 (by omega)
    have hne : Lib.itoa n ≠ [45] := by
      intro e
      rw [e] at hb; revert hb; decide
    obtain ⟨e1, e2⟩ := spOK_num hne
    rw [e1, e2, hb, hv]
    exact ⟨by simp [h], rfl⟩
theorem spT_spX {s : List UInt8} (h : spOK s = true) : spT (spX s) = s := by
  by_cases hs : s = [45]
  · subst hs; rfl
  · obtain ⟨e1, e2⟩ := spOK_num hs
    rw [e1, Bool.and_eq_true, decide_eq_true_eq] at h
    unfold spT
    rw [e2, if_neg h.2, itoa_numV h.1]

/-! ### words and lines -/
theorem spsT_tail (l : List Int) : ∀ k, k ≤ l.length → spsT l k = Lib.joinTail [32] ((l.take k).map spT)
  | 0, _ => rfl
  | k + 1, hk => by
    rw [spsT_next hk, spsT_tail l k (by omega), List.take_succ_eq_append_getElem hk, List.map_append]
    have e : ∀ (a b : List (List UInt8)), Lib.joinTail [32] (a ++ b) = Lib.joinTail [32] a ++ Lib.joinTail [32] b := by
      intro a b
      unfold Lib.joinTail
      simp
    rw [e]
    simp [Lib.joinTail]
/-- An attempt's line. -/
def attLn (a : Att) : List UInt8 := attW ++ Lib.joinTail [32] (Lib.itoa a.1 :: a.2.map spT)
theorem attT_ln (a : Att) : attT a = attLn a ++ [10] := by
  unfold attT attLn
  rw [spsT_tail a.2 a.2.length (Nat.le_refl _), List.take_length]
  simp [Lib.joinTail]
def headLn (segs : List (List UInt8)) : List UInt8 := segW ++ Lib.joinTail [32] segs
theorem headT_ln {segs : List (List UInt8)} (h : segs ≠ []) : headT segs = headLn segs ++ [10] := by
  cases segs with
  | nil => exact absurd rfl h
  | cons s segs =>
    unfold headT headLn
    rw [Lib.join_cons]
    simp [Lib.joinTail]
theorem joinTail_free {c : UInt8} (hc : c ≠ 32) : ∀ {ws : List (List UInt8)}, (∀ x ∈ ws, c ∉ x) → c ∉ Lib.joinTail [32] ws
  | [], _ => by simp [Lib.joinTail]
  | x :: ws, h => by
    have ih := joinTail_free hc (ws := ws) (fun y hy => h y (by simp [hy]))
    have e : Lib.joinTail [32] (x :: ws) = 32 :: (x ++ Lib.joinTail [32] ws) := by simp [Lib.joinTail]
    rw [e]
    intro hm
    rcases List.mem_cons.1 hm with hm | hm
    · exact hc hm
    · rcases List.mem_append.1 hm with hm | hm
      · exact h x (by simp) hm
      · exact ih hm
theorem key_free {s : List UInt8} (h : keyB s = true) : (10 : UInt8) ∉ s ∧ (32 : UInt8) ∉ s ∧ s ≠ [] := by
  have hl := keyB_le h
  unfold keyB at h
  simp only [Bool.and_eq_true] at h
  have ha := List.all_eq_true.1 h.2
  refine ⟨fun hm => ?_, fun hm => ?_, fun e => by rw [e] at hl; simp at hl⟩
  · have := ha 10 hm; revert this; decide
  · have := ha 32 hm; revert this; decide
theorem join_cut (c : UInt8) (l : List UInt8) : ∃ x ws, cutAt c l = x :: ws ∧ l = x ++ Lib.joinTail [c] ws := by
  induction l with
  | nil => exact ⟨[], [], rfl, rfl⟩
  | cons b l ih =>
    obtain ⟨x, ws, e1, e2⟩ := ih
    unfold cutAt
    by_cases h : b = c
    · subst h
      rw [if_pos rfl, e1]
      exact ⟨[], x :: ws, rfl, by
        have : Lib.joinTail [b] (x :: ws) = b :: (x ++ Lib.joinTail [b] ws) := by simp [Lib.joinTail]
        rw [this, ← e2]; rfl⟩
    · rw [if_neg h, e1]
      exact ⟨b :: x, ws, rfl, by rw [List.cons_append, ← e2]⟩
/-- A text whose last line is ended is its lines. -/
theorem text_lines (t : List UInt8) (h : endsB t = true) : t = (linesL t).flatMap (· ++ [10]) := by
  induction hk : t.length using Nat.strongRecOn generalizing t with
  | _ n ih =>
    by_cases h0 : t = []
    · subst h0; rfl
    · rcases split_first 10 t with hn | ⟨a, r, rfl, hn⟩
      · rw [(lines_last t hn h0).2] at h; cases h
      · obtain ⟨e1, e2⟩ := lines_cons a r hn
        rw [e1, List.flatMap_cons, ← ih r.length (by subst hk; simp; omega) r (by rw [← e2]; exact h) rfl]
        simp
theorem lines_text : ∀ (ls : List (List UInt8)), (∀ x ∈ ls, (10 : UInt8) ∉ x) → linesL (ls.flatMap (· ++ [10])) = ls ∧ endsB (ls.flatMap (· ++ [10])) = true
  | [], _ => ⟨rfl, rfl⟩
  | x :: ls, h => by
    obtain ⟨i1, i2⟩ := lines_text ls (fun y hy => h y (by simp [hy]))
    have e : (x :: ls).flatMap (· ++ [10]) = x ++ 10 :: ls.flatMap (· ++ [10]) := by simp
    obtain ⟨e1, e2⟩ := lines_cons x (ls.flatMap (· ++ [10])) (h x (by simp))
    rw [e, e1, e2, i1, i2]; exact ⟨rfl, rfl⟩
theorem attsT_flat (atts : List Att) : ∀ k, k ≤ atts.length → attsT atts k = ((atts.take k).map attLn).flatMap (· ++ [10])
  | 0, _ => rfl
  | k + 1, hk => by
    rw [attsT_next hk, attsT_flat atts k (by omega), attT_ln, List.take_succ_eq_append_getElem hk, List.map_append, List.flatMap_append]
    congr 1
    simp
theorem histT_flat {segs : List (List UInt8)} {atts : List Att} (h : segs ≠ []) : histT segs atts = (headLn segs :: atts.map attLn).flatMap (· ++ [10]) := by
  unfold histT
  rw [headT_ln h, attsT_flat atts atts.length (Nat.le_refl _), List.take_length]
  simp
/-- What is written of a right history is read as it was. -/
theorem hist_comes {segs : List (List UInt8)} {atts : List Att} (h : HistOk segs atts) (hl : (histT segs atts).length ≤ 200000) : readV (histT segs atts) = (segs, atts, 0, 0) := by
  have hne : segs ≠ [] := by intro e; have := h.n1; rw [e] at this; simp at this
  have hkey : ∀ s ∈ segs, keyB s = true := fun s hs => by
    obtain ⟨i, hi, rfl⟩ := List.mem_iff_getElem.1 hs
    exact h.key i hi
  have hsp : ∀ a ∈ atts, ∀ n ∈ a.2, 0 ≤ n ∧ n ≤ 864000000 := fun a ha n hn => by
    obtain ⟨i, hi, rfl⟩ := List.mem_iff_getElem.1 ha
    obtain ⟨j, hj, rfl⟩ := List.mem_iff_getElem.1 hn
    exact (h.spl i hi).bd j hj
  have hno : ∀ a ∈ atts, 1 ≤ a.1 ∧ a.1 ≤ 1000000 := fun a ha => by
    obtain ⟨i, hi, rfl⟩ := List.mem_iff_getElem.1 ha
    exact h.no i hi
  have ifree : ∀ n : Int, 0 ≤ n → (10 : UInt8) ∉ Lib.itoa n ∧ (32 : UInt8) ∉ Lib.itoa n ∧ Lib.itoa n ≠ [] := fun n h0 => by
    obtain ⟨u, rfl⟩ := Int.eq_ofNat_of_zero_le h0
    rw [Lib.itoa_nonneg]
    refine ⟨fun h => ?_, fun h => ?_, decDigits_ne u⟩
    · have := dec_bytes u 10 h; revert this; decide
    · have := dec_bytes u 32 h; revert this; decide
  have wf : ∀ a ∈ atts, ∀ x ∈ attW :: Lib.itoa a.1 :: a.2.map spT, (10 : UInt8) ∉ x ∧ (32 : UInt8) ∉ x ∧ x ≠ [] := by
    intro a ha x hx
    rcases List.mem_cons.1 hx with rfl | hx
    · decide
    · rcases List.mem_cons.1 hx with rfl | hx
      · exact ifree a.1 (by have := hno a ha; omega)
      · obtain ⟨n, hn, rfl⟩ := List.mem_map.1 hx
        exact spT_free n (hsp a ha n hn).1
  have hfree : ∀ x ∈ headLn segs :: atts.map attLn, (10 : UInt8) ∉ x := by
    intro x hx
    rcases List.mem_cons.1 hx with rfl | hx
    · unfold headLn
      intro hm
      rcases List.mem_append.1 hm with hm | hm
      · revert hm; decide
      · exact joinTail_free (by decide) (fun s hs => (key_free (hkey s hs)).1) hm
    · obtain ⟨a, ha, rfl⟩ := List.mem_map.1 hx
      unfold attLn
      intro hm
      rcases List.mem_append.1 hm with hm | hm
      · revert hm; decide
      · exact joinTail_free (by decide) (fun s hs => (wf a ha s (by simp [hs])).1) hm
  obtain ⟨L1, L2⟩ := lines_text _ hfree
  rw [← histT_flat hne] at L1 L2
  have hn : (linesL (histT segs atts)).length = atts.length + 1 := by rw [L1]; simp
  have w0 : wordsT (histT segs atts) 0 = segW :: segs := by
    unfold wordsT
    rw [L1]
    show cutAt 32 (headLn segs) = _
    exact cutAt_join 32 segW segs (fun y hy => by
      rcases List.mem_cons.1 hy with rfl | hy
      · decide
      · exact (key_free (hkey y hy)).2.1)
  have wk : ∀ j (hj : j < atts.length), wordsT (histT segs atts) (j + 1) = attW :: Lib.itoa atts[j].1 :: atts[j].2.map spT := by
    intro j hj
    unfold wordsT
    rw [L1]
    have e : (headLn segs :: atts.map attLn).getD (j + 1) [] = attLn atts[j] := by simp [hj]
    rw [e]
    exact cutAt_join 32 attW _ (fun y hy => (wf atts[j] (List.getElem_mem _) y hy).2.1)
  have full : ∀ ws : List (List UInt8), (∀ x ∈ ws, x ≠ []) → fullW ws = true := fun ws hw => by
    rw [fullW, List.all_eq_true]
    intro x hx
    have := hw x hx
    cases x with | nil => exact absurd rfl this | cons a b => rfl
  have rdk : ∀ j (hj : j < atts.length), attB (attW :: Lib.itoa atts[j].1 :: atts[j].2.map spT) = true ∧ attR (attW :: Lib.itoa atts[j].1 :: atts[j].2.map spT) = atts[j] := by
    intro j hj
    have ha := hno atts[j] (List.getElem_mem _)
    obtain ⟨n1, n2⟩ := numB_itoaN atts[j].1 (by omega) (by omega)
    have hd : attHd (attW :: Lib.itoa atts[j].1 :: atts[j].2.map spT) = true := by unfold attHd; simp
    have hm : (atts[j].2.map spT).all spOK = true := by
      rw [List.all_eq_true]
      intro x hx
      obtain ⟨n, hn, rfl⟩ := List.mem_map.1 hx
      have := hsp _ (List.getElem_mem hj) n hn
      exact (spT_read n this.1 this.2).1
    have hx : (atts[j].2.map spT).map spX = atts[j].2 := by
      rw [List.map_map]
      have : ∀ n ∈ atts[j].2, (spX ∘ spT) n = n := fun n hn => by
        have := hsp _ (List.getElem_mem hj) n hn
        exact (spT_read n this.1 this.2).2
      rw [List.map_congr_left this, List.map_id']
    constructor
    · unfold attB
      rw [hd]
      simp only [Bool.true_and, List.getD_cons_succ, List.getD_cons_zero, List.drop_succ_cons, List.drop_zero]
      rw [n1, hm]; rfl
    · unfold attR
      rw [hd, if_pos rfl]
      simp only [List.getD_cons_succ, List.getD_cons_zero, List.drop_succ_cons, List.drop_zero]
      rw [n2, hx]
  have ok : ∀ k, k < (linesL (histT segs atts)).length → okH (histT segs atts) k = true := by
    intro k hk
    cases k with
    | zero =>
      rw [okH_zero rfl, w0, full _ (fun x hx => by
        rcases List.mem_cons.1 hx with rfl | hx
        · decide
        · exact (key_free (hkey x hx)).2.2)]
      simp
    | succ j =>
      have hj : j < atts.length := by omega
      rw [okH_pos (by omega), wk j hj, full _ (fun x hx => (wf atts[j] (List.getElem_mem _) x hx).2.2), (rdk j hj).1]; rfl
  have hs : stopL (histT segs atts) (okH (histT segs atts)) = none := stopL_none (fun k hk => by unfold badL; rw [L2, ok k hk]; rfl)
  have e1 : segsT (histT segs atts) (linesL (histT segs atts)).length = segs := by
    unfold segsT
    rw [if_neg (by omega), w0]; rfl
  have e2 : attsR (histT segs atts) (linesL (histT segs atts)).length = atts := by
    unfold attsR
    rw [hn, Nat.add_sub_cancel]
    apply List.ext_getElem
    · simp
    · intro j h1 h2
      simp only [List.getElem_map, List.getElem_range]
      rw [wk j h2, (rdk j h2).2]
  rw [readV_ok (by omega) hs (by omega) (by rw [e1, e2]; exact histF_zero h), e1, e2]
/-- What is read without an error is what would be written. -/
theorem text_comes {t : List UInt8} (h : (readV t).2.2.2 = 0) : HistOk (readV t).1 (readV t).2.1 ∧ histT (readV t).1 (readV t).2.1 = t ∧ t.length ≤ 200000 := by
  by_cases hb : 200000 < t.length
  · rw [readV_large hb] at h; cases h
  cases hs : stopL t (okH t) with
  | some i => rw [readV_stop hb hs] at h; cases h
  | none =>
    by_cases h0 : (linesL t).length = 0
    · rw [readV_none hb hs h0] at h; cases h
    by_cases hf : histF (segsT t (linesL t).length) (attsR t (linesL t).length) = 0
    · rw [readV_ok hb hs h0 hf]
      have hok := histF_ok hf
      refine ⟨hok, ?_, by omega⟩
      have hall : ∀ k, k < (linesL t).length → badL t (okH t) k = false := by
        intro k hk
        unfold stopL at hs
        rw [List.find?_eq_none] at hs
        have := hs k (by simpa using hk)
        simpa using this
      have hend : endsB t = true := by
        have := hall ((linesL t).length - 1) (by omega)
        unfold badL at this
        rw [Bool.or_eq_false_iff, decide_eq_true (by omega), Bool.and_true] at this
        simpa using this.1
      have hgood : ∀ k, k < (linesL t).length → okH t k = true := by
        intro k hk
        have := hall k hk
        unfold badL at this
        rw [Bool.or_eq_false_iff] at this
        simpa using this.2
      have hne : segsT t (linesL t).length ≠ [] := by intro e; have := hok.n1; rw [e] at this; simp at this
      rw [histT_flat hne]
      conv => rhs; rw [text_lines t hend]
      congr 1
      apply List.ext_getElem
      · simp only [List.length_cons, List.length_map, attsR_len]; omega
      · intro k h1 h2
        have hw := wordsT_at h2
        have hg := hgood k h2
        obtain ⟨x, ws, e1, e2⟩ := join_cut 32 (linesL t)[k]
        rw [e1] at hw
        cases k with
        | zero =>
          simp only [List.getElem_cons_zero]
          rw [okH_zero rfl, hw, Bool.and_eq_true, decide_eq_true_eq] at hg
          have hx : x = segW := by simpa using hg.2
          unfold headLn segsT
          rw [if_neg h0, hw, e2, hx]; rfl
        | succ j =>
          simp only [List.getElem_cons_succ, List.getElem_map]
          have ea : (attsR t (linesL t).length)[j]'(by rw [attsR_len]; omega) = attR (wordsT t (j + 1)) := by simp [attsR]
          rw [ea, hw]
          rw [okH_pos (by omega), hw, Bool.and_eq_true] at hg
          have hB := hg.2
          unfold attB at hB
          rw [Bool.and_eq_true, Bool.and_eq_true] at hB
          obtain ⟨hd, hn, hsp⟩ := hB
          have hd' := hd
          unfold attHd at hd'
          rw [Bool.and_eq_true, decide_eq_true_eq, decide_eq_true_eq] at hd'
          have hx : x = attW := by simpa using hd'.2
          cases ws with
          | nil => simp at hd'
          | cons w1 r =>
            simp only [List.getD_cons_succ, List.getD_cons_zero] at hn
            simp only [List.drop_succ_cons, List.drop_zero] at hsp
            have er : attR (x :: w1 :: r) = (numV w1 9, r.map spX) := by unfold attR; rw [hd]; rfl
            have em : (r.map spX).map spT = r := by
              rw [List.map_map]
              have : ∀ y ∈ r, (spT ∘ spX) y = y := fun y hy => spT_spX ((List.all_eq_true.1 hsp) y hy)
              rw [List.map_congr_left this, List.map_id']
            rw [er]
            unfold attLn
            rw [itoa_numV hn, em, e2, hx]
    · rw [readV_bad hb hs h0 hf] at h
      exact absurd h hf
end Go.Proofs.YtggnccafmadacaaGreatDoor
