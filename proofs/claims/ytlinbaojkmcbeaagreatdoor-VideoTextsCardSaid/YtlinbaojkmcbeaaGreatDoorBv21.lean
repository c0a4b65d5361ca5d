/- Texts of this seat, laid together: Vt Vn. -/
import Derived.Handy
import Derived.Test.YtlinbaojkmcbeaaGreatDoorBv19
import Derived.Test.YtlinbaojkmcbeaaGreatDoorBv20
import Derived.Test.YtlinbaojkmcbeaaGreatDoorBv17
import Derived.Test.YtlinbaojkmcbeaaGreatDoorBv01
/- Plain laws: a video and its marks as text; what is written is read again, what is read is written so. -/
namespace Go.Proofs.YtlinbaojkmcbeaaGreatDoor
set_option linter.unusedVariables false
set_option linter.unusedSimpArgs false
open Go.RowKit Go.Sort

def strW : List UInt8 := [115, 116, 114, 101, 116, 99, 104]
/-- The words of the kinds of marks, from 1 on. -/
def mkWs : List (List UInt8) := [[115, 116, 97, 114, 116], [101, 110, 100], [111, 102, 102], [111, 110], [115, 112, 108, 105, 116]]
def mkN (k : Int) : List UInt8 := mkWs.getD (k - 1).toNat []
/-- The kind that a word means; 0: none. -/
def mkK (s : List UInt8) : Int := if s ∈ mkWs then (mkWs.idxOf s : Int) + 1 else 0
theorem mkN_all : ∀ k : Fin 5, mkK (mkN ((k.val : Int) + 1)) = (k.val : Int) + 1 ∧ mkN ((k.val : Int) + 1) ∈ mkWs := by decide +kernel
theorem mkN_K {k : Int} (h0 : 1 ≤ k) (h1 : k ≤ 5) : mkK (mkN k) = k ∧ mkN k ∈ mkWs := by
  obtain ⟨n, hn⟩ := Int.eq_ofNat_of_zero_le (show 0 ≤ k - 1 by omega)
  have e : k = (n : Int) + 1 := by omega
  subst e
  exact mkN_all ⟨n, by omega⟩
theorem mkWs_all : ∀ s ∈ mkWs, mkN (mkK s) = s ∧ 1 ≤ mkK s ∧ mkK s ≤ 5 ∧ (10 : UInt8) ∉ s ∧ (32 : UInt8) ∉ s ∧ s ≠ [] ∧ s ≠ strW ∧ s.length ≤ 5 := by decide +kernel
theorem strW_free : (10 : UInt8) ∉ strW ∧ (32 : UInt8) ∉ strW ∧ strW ∉ mkWs := by decide

/-! ### lines -/
def stLn (s : St) : List UInt8 := strW ++ Lib.joinTail [32] [Lib.itoa s.1, Lib.itoa s.2.1, Lib.itoa s.2.2]
def mkLn (x : Mk) : List UInt8 := mkN x.2 ++ Lib.joinTail [32] [Lib.itoa x.1]
def stsT (v : List St) : Nat → List UInt8
  | 0 => []
  | k + 1 => stsT v k ++ (stLn (v.getD k (0, 0, 0)) ++ [10])
def mksT (m : List Mk) : Nat → List UInt8
  | 0 => []
  | k + 1 => mksT m k ++ (mkLn (m.getD k (0, 0)) ++ [10])
def vidT (v : List St) (m : List Mk) : List UInt8 := stsT v v.length ++ mksT m m.length
theorem stsT_next {v : List St} {k : Nat} (h : k < v.length) : stsT v (k + 1) = stsT v k ++ (stLn v[k] ++ [10]) := by
  show stsT v k ++ (stLn (v.getD k (0, 0, 0)) ++ [10]) = _
  rw [List.getD_eq_getElem?_getD, List.getElem?_eq_getElem h]; rfl
theorem mksT_next {m : List Mk} {k : Nat} (h : k < m.length) : mksT m (k + 1) = mksT m k ++ (mkLn m[k] ++ [10]) := by
  show mksT m k ++ (mkLn (m.getD k (0, 0)) ++ [10]) = _
  rw [List.getD_eq_getElem?_getD, List.getElem?_eq_getElem h]; rfl
theorem stsT_flat (v : List St) : ∀ k, k ≤ v.length → stsT v k = ((v.take k).map stLn).flatMap (· ++ [10])
  | 0, _ => rfl
  | k + 1, hk => by
    rw [stsT_next hk, stsT_flat v k (by omega), List.take_succ_eq_append_getElem hk, List.map_append, List.flatMap_append]
    congr 1
    simp
theorem mksT_flat (m : List Mk) : ∀ k, k ≤ m.length → mksT m k = ((m.take k).map mkLn).flatMap (· ++ [10])
  | 0, _ => rfl
  | k + 1, hk => by
    rw [mksT_next hk, mksT_flat m k (by omega), List.take_succ_eq_append_getElem hk, List.map_append, List.flatMap_append]
    congr 1
    simp
theorem vidT_flat (v : List St) (m : List Mk) : vidT v m = (v.map stLn ++ m.map mkLn).flatMap (· ++ [10]) := by
  have h1 := stsT_flat v v.length (Nat.le_refl _)
  have h2 := mksT_flat m m.length (Nat.le_refl _)
  rw [List.take_length] at h1 h2
  unfold vidT
  rw [h1, h2, List.flatMap_append]

/-! ### what is right -/
structure VidOk (v : List St) (m : List Mk) : Prop where
  vl : v.length ≤ 500
  ml : m.length ≤ 200
  sts : ∀ s ∈ v, 0 ≤ s.1 ∧ s.1 < 1000000000 ∧ 0 ≤ s.2.1 ∧ s.2.1 < 1000000000 ∧ 0 ≤ s.2.2 ∧ s.2.2 < 1000000000
  mks : ∀ x ∈ m, 1 ≤ x.2 ∧ x.2 ≤ 5 ∧ 0 ≤ x.1 ∧ x.1 < 1000000000
theorem vid_ok {v : List St} {m : List Mk} (h : mkFault v m = 0) : VidOk v m := by
  have hv : vFault v = 0 := by
    by_cases hv : vFault v = 0
    · exact hv
    · rw [mkFault_bad hv] at h; exact h
  rw [mkFault_ok hv] at h
  obtain ⟨h1, -, h2, -, -⟩ := mkF_ok h
  have hg := vFault_ok hv
  refine ⟨hg.len, h1, fun s hs => ?_, fun x hx => ?_⟩
  · have a := hg.pos s hs
    have b := hg.form s hs
    omega
  · have := h2 x hx
    have := hg.sum
    omega
theorem stLn_len {s : St} (h : 0 ≤ s.1 ∧ s.1 < 1000000000 ∧ 0 ≤ s.2.1 ∧ s.2.1 < 1000000000 ∧ 0 ≤ s.2.2 ∧ s.2.2 < 1000000000) : (stLn s ++ [10]).length ≤ 80 := by
  have a := itoa_len s.1 (by omega) (by omega)
  have b := itoa_len s.2.1 (by omega) (by omega)
  have c := itoa_len s.2.2 (by omega) (by omega)
  unfold stLn
  simp only [Lib.joinTail, strW, List.map_cons, List.map_nil, List.flatten_cons, List.flatten_nil, List.length_append, List.length_cons, List.length_nil]
  omega
theorem mkLn_len {x : Mk} (h : 1 ≤ x.2 ∧ x.2 ≤ 5 ∧ 0 ≤ x.1 ∧ x.1 < 1000000000) : (mkLn x ++ [10]).length ≤ 40 := by
  have a := itoa_len x.1 (by omega) (by omega)
  have b := (mkWs_all _ (mkN_K h.1 h.2.1).2).2.2.2.2.2.2.2
  unfold mkLn
  simp only [Lib.joinTail, List.map_cons, List.map_nil, List.flatten_cons, List.flatten_nil, List.length_append, List.length_cons, List.length_nil]
  omega
theorem stsT_len {v : List St} {m : List Mk} (h : VidOk v m) : ∀ k, k ≤ v.length → (stsT v k).length ≤ 80 * k
  | 0, _ => Nat.le_refl _
  | k + 1, hk => by
    have h1 := stLn_len (h.sts v[k] (List.getElem_mem _))
    have h2 := stsT_len h k (by omega)
    rw [stsT_next hk, List.length_append]; omega
theorem mksT_len {v : List St} {m : List Mk} (h : VidOk v m) : ∀ k, k ≤ m.length → (mksT m k).length ≤ 40 * k
  | 0, _ => Nat.le_refl _
  | k + 1, hk => by
    have h1 := mkLn_len (h.mks m[k] (List.getElem_mem _))
    have h2 := mksT_len h k (by omega)
    rw [mksT_next hk, List.length_append]; omega
theorem vidT_len {v : List St} {m : List Mk} (h : VidOk v m) : (vidT v m).length ≤ 48000 := by
  have h1 := stsT_len h v.length (Nat.le_refl _)
  have h2 := mksT_len h m.length (Nat.le_refl _)
  have := h.vl
  have := h.ml
  unfold vidT
  rw [List.length_append]; omega

/-! ### reading -/
def numsB (ws : List (List UInt8)) : Bool := ws.all fun s => numB s 9
def numsV (ws : List (List UInt8)) : List Int := ws.map fun s => numV s 9
def mkLB (ws : List (List UInt8)) : Bool := decide (ws.getD 0 [] ∈ mkWs) && decide (ws.length = 2)
def stLB (ws : List (List UInt8)) : Bool := decide (ws.getD 0 [] = strW) && decide (ws.length = 4)
def mkLV (ws : List (List UInt8)) : Mk := (numV (ws.getD 1 []) 9, mkK (ws.getD 0 []))
def stLV (ws : List (List UInt8)) : St := (numV (ws.getD 1 []) 9, numV (ws.getD 2 []) 9, numV (ws.getD 3 []) 9)
/-- The stretches and marks of so many lines. -/
def vdR (t : List UInt8) : Nat → List St × List Mk
  | 0 => ([], [])
  | k + 1 => if mkLB (lnW t k) then ((vdR t k).1, (vdR t k).2 ++ [mkLV (lnW t k)]) else ((vdR t k).1 ++ [stLV (lnW t k)], (vdR t k).2)
def okV (t : List UInt8) (k : Nat) : Bool := numsB ((lnW t k).drop 1) && (mkLB (lnW t k) || (stLB (lnW t k) && (vdR t k).2.isEmpty))
theorem vdR_mark {t : List UInt8} {k : Nat} (h : mkLB (lnW t k) = true) : vdR t (k + 1) = ((vdR t k).1, (vdR t k).2 ++ [mkLV (lnW t k)]) := by
  show (if mkLB (lnW t k) then _ else _) = _
  rw [if_pos h]
theorem vdR_str {t : List UInt8} {k : Nat} (h : mkLB (lnW t k) = false) : vdR t (k + 1) = ((vdR t k).1 ++ [stLV (lnW t k)], (vdR t k).2) := by
  show (if mkLB (lnW t k) then _ else _) = _
  rw [h]; rfl
theorem vdR_len (t : List UInt8) : ∀ k, (vdR t k).1.length + (vdR t k).2.length = k
  | 0 => rfl
  | k + 1 => by
    have := vdR_len t k
    cases h : mkLB (lnW t k) with
    | true => rw [vdR_mark h]; simp; omega
    | false => rw [vdR_str h]; simp; omega
/-- What is read of a text: the stretches, the marks, the line that is wrong, the error. -/
def readVd (t : List UInt8) : List St × List Mk × Int × Int :=
  if 200000 < t.length then ([], [], 0, 2) else
  match stopL t (okV t) with
  | some i => ([], [], (i : Int), 9)
  | none => if mkFault (vdR t (linesL t).length).1 (vdR t (linesL t).length).2 = 0 then ((vdR t (linesL t).length).1, (vdR t (linesL t).length).2, 0, 0) else ([], [], 0, mkFault (vdR t (linesL t).length).1 (vdR t (linesL t).length).2)
theorem readVd_large {t : List UInt8} (h : 200000 < t.length) : readVd t = ([], [], 0, 2) := by unfold readVd; rw [if_pos h]
theorem readVd_stop {t : List UInt8} (h : ¬ 200000 < t.length) {i : Nat} (hs : stopL t (okV t) = some i) : readVd t = ([], [], (i : Int), 9) := by unfold readVd; rw [if_neg h, hs]
theorem readVd_bad {t : List UInt8} (h : ¬ 200000 < t.length) (hs : stopL t (okV t) = none) {v : List St} {m : List Mk} (e : vdR t (linesL t).length = (v, m)) (hf : mkFault v m ≠ 0) : readVd t = ([], [], 0, mkFault v m) := by unfold readVd; rw [if_neg h, hs, e]; simp [hf]
theorem readVd_ok {t : List UInt8} (h : ¬ 200000 < t.length) (hs : stopL t (okV t) = none) {v : List St} {m : List Mk} (e : vdR t (linesL t).length = (v, m)) (hf : mkFault v m = 0) : readVd t = (v, m, 0, 0) := by unfold readVd; rw [if_neg h, hs, e]; simp [hf]

/-! ### the two laws -/
theorem stLn_words {s : St} (h : 0 ≤ s.1 ∧ s.1 < 1000000000 ∧ 0 ≤ s.2.1 ∧ s.2.1 < 1000000000 ∧ 0 ≤ s.2.2 ∧ s.2.2 < 1000000000) : cutAt 32 (stLn s) = [strW, Lib.itoa s.1, Lib.itoa s.2.1, Lib.itoa s.2.2] ∧ (10 : UInt8) ∉ stLn s := by
  have a := itoa_free s.1 h.1
  have b := itoa_free s.2.1 h.2.2.1
  have c := itoa_free s.2.2 h.2.2.2.2.1
  refine ⟨cutAt_join 32 _ _ (fun y hy => ?_), ?_⟩
  · simp only [List.mem_cons, List.not_mem_nil, or_false] at hy
    rcases hy with rfl | rfl | rfl | rfl
    · exact strW_free.2.1
    · exact a.2.1
    · exact b.2.1
    · exact c.2.1
  · unfold stLn
    intro hm
    rcases List.mem_append.1 hm with hm | hm
    · exact strW_free.1 hm
    · refine joinTail_free (by decide) (fun y hy => ?_) hm
      simp only [List.mem_cons, List.not_mem_nil, or_false] at hy
      rcases hy with rfl | rfl | rfl
      · exact a.1
      · exact b.1
      · exact c.1
theorem mkLn_words {x : Mk} (h : 1 ≤ x.2 ∧ x.2 ≤ 5 ∧ 0 ≤ x.1 ∧ x.1 < 1000000000) : cutAt 32 (mkLn x) = [mkN x.2, Lib.itoa x.1] ∧ (10 : UInt8) ∉ mkLn x := by
  have a := itoa_free x.1 h.2.2.1
  have b := mkWs_all _ (mkN_K h.1 h.2.1).2
  refine ⟨cutAt_join 32 _ _ (fun y hy => ?_), ?_⟩
  · simp only [List.mem_cons, List.not_mem_nil, or_false] at hy
    rcases hy with rfl | rfl
    · exact b.2.2.2.2.1
    · exact a.2.1
  · unfold mkLn
    intro hm
    rcases List.mem_append.1 hm with hm | hm
    · exact b.2.2.2.1 hm
    · refine joinTail_free (by decide) (fun y hy => ?_) hm
      simp only [List.mem_cons, List.not_mem_nil, or_false] at hy
      subst hy
      exact a.1
theorem num9 (n : Int) (h0 : 0 ≤ n) (h1 : n < 1000000000) : numB (Lib.itoa n) 9 = true ∧ numV (Lib.itoa n) 9 = n := numB_itoaN n h0 h1
/-- What is written of a right video is read as it was. -/
theorem video_comes {v : List St} {m : List Mk} (h : mkFault v m = 0) : readVd (vidT v m) = (v, m, 0, 0) := by
  have ho := vid_ok h
  have hlen := vidT_len ho
  have hT := vidT_flat v m
  have hfree : ∀ x ∈ v.map stLn ++ m.map mkLn, (10 : UInt8) ∉ x := by
    intro x hx
    rcases List.mem_append.1 hx with hx | hx
    · obtain ⟨p, hp, rfl⟩ := List.mem_map.1 hx
      exact (stLn_words (ho.sts p hp)).2
    · obtain ⟨p, hp, rfl⟩ := List.mem_map.1 hx
      exact (mkLn_words (ho.mks p hp)).2
  obtain ⟨L1, L2⟩ := lines_text _ hfree
  rw [← hT] at L1 L2
  generalize vidT v m = t at *
  have hn : (linesL t).length = v.length + m.length := by rw [L1]; simp
  have ws : ∀ j (hj : j < v.length), lnW t j = [strW, Lib.itoa v[j].1, Lib.itoa v[j].2.1, Lib.itoa v[j].2.2] := by
    intro j hj
    rw [lnW_at (by omega)]
    have e : (linesL t)[j]'(by omega) = stLn v[j] := by simp [L1, hj]
    rw [e]
    exact (stLn_words (ho.sts v[j] (List.getElem_mem _))).1
  have wm : ∀ j (hj : j < m.length), lnW t (v.length + j) = [mkN m[j].2, Lib.itoa m[j].1] := by
    intro j hj
    rw [lnW_at (by omega)]
    have e : (linesL t)[v.length + j]'(by omega) = mkLn m[j] := by simp [L1]
    rw [e]
    exact (mkLn_words (ho.mks m[j] (List.getElem_mem _))).1
  have bs : ∀ j (hj : j < v.length), mkLB (lnW t j) = false ∧ stLB (lnW t j) = true ∧ stLV (lnW t j) = v[j] ∧ numsB ((lnW t j).drop 1) = true := by
    intro j hj
    have hs := ho.sts v[j] (List.getElem_mem _)
    have a := num9 v[j].1 hs.1 hs.2.1
    have b := num9 v[j].2.1 hs.2.2.1 hs.2.2.2.1
    have c := num9 v[j].2.2 hs.2.2.2.2.1 hs.2.2.2.2.2
    rw [ws j hj]
    refine ⟨by unfold mkLB; simp, by unfold stLB; simp, ?_, ?_⟩
    · unfold stLV
      simp only [List.getD_cons_zero, List.getD_cons_succ, a.2, b.2, c.2]
    · unfold numsB
      simp [a.1, b.1, c.1]
  have bm : ∀ j (hj : j < m.length), mkLB (lnW t (v.length + j)) = true ∧ mkLV (lnW t (v.length + j)) = m[j] ∧ numsB ((lnW t (v.length + j)).drop 1) = true := by
    intro j hj
    have hs := ho.mks m[j] (List.getElem_mem _)
    have a := num9 m[j].1 hs.2.2.1 hs.2.2.2
    have b := mkN_K hs.1 hs.2.1
    rw [wm j hj]
    refine ⟨by unfold mkLB; simp [b.2], ?_, ?_⟩
    · unfold mkLV
      simp only [List.getD_cons_zero, List.getD_cons_succ, a.2, b.1]
    · unfold numsB
      simp [a.1]
  have rs : ∀ j, j ≤ v.length → vdR t j = (v.take j, []) := by
    intro j
    induction j with
    | zero => intro _; rfl
    | succ j ih =>
      intro hj
      rw [vdR_str (bs j hj).1, ih (by omega), (bs j hj).2.2.1, List.take_succ_eq_append_getElem hj]
  have rm : ∀ j, j ≤ m.length → vdR t (v.length + j) = (v, m.take j) := by
    intro j
    induction j with
    | zero => intro _; have := rs v.length (Nat.le_refl _); rw [List.take_length] at this; exact this
    | succ j ih =>
      intro hj
      rw [← Nat.add_assoc, vdR_mark (bm j hj).1, ih (by omega), (bm j hj).2.1, List.take_succ_eq_append_getElem hj]
  have ok : ∀ k, k < (linesL t).length → okV t k = true := by
    intro k hk
    unfold okV
    by_cases hkv : k < v.length
    · rw [(bs k hkv).2.2.2, (bs k hkv).2.1, rs k (by omega)]
      simp
    · obtain ⟨j, rfl⟩ : ∃ j, k = v.length + j := ⟨k - v.length, by omega⟩
      have hj : j < m.length := by omega
      rw [(bm j hj).1, (bm j hj).2.2]; rfl
  have hs : stopL t (okV t) = none := stopL_none (fun k hk => by unfold badL; rw [L2, ok k hk]; rfl)
  have e : vdR t (linesL t).length = (v, m) := by
    have := rm m.length (Nat.le_refl _)
    rw [List.take_length] at this
    rw [hn]; exact this
  exact readVd_ok (by omega) hs e h
/-- What is read without an error would be written so. -/
theorem video_text {t : List UInt8} (h : (readVd t).2.2.2 = 0) : mkFault (readVd t).1 (readVd t).2.1 = 0 ∧ vidT (readVd t).1 (readVd t).2.1 = t ∧ t.length ≤ 200000 := by
  by_cases hb : 200000 < t.length
  · rw [readVd_large hb] at h; cases h
  cases hs : stopL t (okV t) with
  | some i => rw [readVd_stop hb hs] at h; cases h
  | none =>
    obtain ⟨v, m, he⟩ : ∃ v m, vdR t (linesL t).length = (v, m) := ⟨_, _, rfl⟩
    by_cases hf : mkFault v m = 0
    · rw [readVd_ok hb hs he hf]
      have hall : ∀ k, k < (linesL t).length → badL t (okV t) k = false := by
        intro k hk
        unfold stopL at hs
        rw [List.find?_eq_none] at hs
        have := hs k (by simpa using hk)
        simpa using this
      have hgood : ∀ k, k < (linesL t).length → okV t k = true := by
        intro k hk
        have := hall k hk
        unfold badL at this
        rw [Bool.or_eq_false_iff] at this
        simpa using this.2
      have hend : endsB t = true := by
        by_cases h0 : (linesL t).length = 0
        · by_cases ht : t = []
          · subst ht; rfl
          · exact absurd (List.eq_nil_of_length_eq_zero h0) (linesL_ne ht)
        · have := hall ((linesL t).length - 1) (by omega)
          unfold badL at this
          rw [Bool.or_eq_false_iff, decide_eq_true (by omega), Bool.and_true] at this
          simpa using this.1
      refine ⟨hf, ?_, by omega⟩
      show vidT v m = t
      rw [vidT_flat]
      conv => rhs; rw [text_lines t hend]
      congr 1
      have key : ∀ k, k ≤ (linesL t).length → (vdR t k).1.map stLn ++ (vdR t k).2.map mkLn = (linesL t).take k := by
        intro k
        induction k with
        | zero => intro _; rfl
        | succ k ih =>
          intro hk
          have hg := hgood k hk
          have hw := lnW_at hk
          obtain ⟨x, ws, e1, e2⟩ := join_cut 32 (linesL t)[k]
          rw [e1] at hw
          unfold okV at hg
          rw [Bool.and_eq_true] at hg
          obtain ⟨g1, g2⟩ := hg
          rw [List.take_succ_eq_append_getElem hk, ← ih (by omega)]
          cases hm : mkLB (lnW t k) with
          | true =>
            rw [vdR_mark hm]
            have hl : mkLn (mkLV (lnW t k)) = (linesL t)[k] := by
              rw [hw] at hm g1 ⊢
              unfold mkLB at hm
              rw [Bool.and_eq_true, decide_eq_true_eq, decide_eq_true_eq] at hm
              obtain ⟨y, rfl⟩ : ∃ y, ws = [y] := by
                match ws, hm.2 with
                | [y], _ => exact ⟨y, rfl⟩
              have m1 := mkWs_all _ hm.1
              unfold numsB at g1
              simp only [List.drop_succ_cons, List.drop_zero, List.all_cons, List.all_nil, Bool.and_true] at g1
              unfold mkLn mkLV
              simp only [List.getD_cons_zero, List.getD_cons_succ] at m1 ⊢
              rw [m1.1, itoa_numV g1, e2]
            rw [List.map_append, ← List.append_assoc]
            simp [hl]
          | false =>
            rw [hm, Bool.false_or, Bool.and_eq_true] at g2
            have hz : (vdR t k).2 = [] := List.isEmpty_iff.1 g2.2
            rw [vdR_str hm]
            have hl : stLn (stLV (lnW t k)) = (linesL t)[k] := by
              have g3 := g2.1
              rw [hw] at g1 g3 ⊢
              unfold stLB at g3
              rw [Bool.and_eq_true, decide_eq_true_eq, decide_eq_true_eq] at g3
              obtain ⟨y0, y1, y2, rfl⟩ : ∃ y0 y1 y2, ws = [y0, y1, y2] := by
                match ws, g3.2 with
                | [y0, y1, y2], _ => exact ⟨y0, y1, y2, rfl⟩
              unfold numsB at g1
              simp only [List.drop_succ_cons, List.drop_zero, List.all_cons, List.all_nil, Bool.and_true, Bool.and_eq_true] at g1
              unfold stLn stLV
              have g4 := g3.1
              simp only [List.getD_cons_zero, List.getD_cons_succ] at g4 ⊢
              rw [itoa_numV g1.1, itoa_numV g1.2.1, itoa_numV g1.2.2, e2, g4]
            rw [hz]
            simp [hl]
      have := key (linesL t).length (Nat.le_refl _)
      rw [he, List.take_length] at this
      exact this
    · rw [readVd_bad hb hs he hf] at h
      exact absurd h hf
end Go.Proofs.YtlinbaojkmcbeaaGreatDoor
/- The walks of base.Numbers and splitref1.Ints, and of the lists of the words for marks. -/
namespace Go.Proofs.YtlinbaojkmcbeaaGreatDoor
set_option linter.unusedVariables false
set_option linter.unusedSimpArgs false
open Go.RowKit Go.Sort

/-- What is handed out of words that shall be numbers. -/
def nmL (ws : List (List UInt8)) : List Int := if numsB ws then numsV ws else []
def NumsPost (w : World) (ws : List (List UInt8)) (e : Ending) (w' : World) : Prop :=
  ∃ (A : Option Addr) (c : Nat), e = .returned (.tuple #[.slice A (nmL ws).length c, .bool (numsB ws)]) ∧ w'.ownsRow w.heap.size 3 1 (.slice A (nmL ws).length c) (nmL ws).length (ints (nmL ws)) ∧ (nmL ws).length ≤ c ∧ Below w.heap.size w w'
theorem numsV_len (ws : List (List UInt8)) : (numsV ws).length = ws.length := by simp [numsV]
theorem nums_take {ws : List (List UInt8)} {k : Nat} (h : k < ws.length) : numsV (ws.take (k + 1)) = numsV (ws.take k) ++ [numV ws[k] 9] ∧ numsB (ws.take (k + 1)) = (numsB (ws.take k) && numB ws[k] 9) := by
  rw [List.take_succ_eq_append_getElem h]
  unfold numsV numsB
  rw [List.map_append, List.all_append]
  exact ⟨rfl, by rw [List.all_cons, List.all_nil, Bool.and_true]⟩
theorem nums_no {ws : List (List UInt8)} {k : Nat} (h : k < ws.length) (hn : numB ws[k] 9 = false) : numsB ws = false := by
  unfold numsB
  rw [List.all_eq_false]
  exact ⟨ws[k], List.getElem_mem h, by simp [hn]⟩
theorem numV_le (s : List UInt8) : -100000000000000000 ≤ numV s 9 ∧ numV s 9 ≤ 100000000000000000 := by
  unfold numV
  cases h : numB s 9
  · simp
  · rw [if_pos rfl]
    unfold numB at h
    simp only [Bool.and_eq_true, decide_eq_true_eq] at h
    exact valS_bound h.1.1.1 h.1.2 (by decide)
theorem intV_numV {s : List UInt8} {m : Nat} (h : numB s m = true) : intV s m = numV s m := by
  unfold intV numV
  rw [h, if_pos rfl]
  unfold numB at h
  simp only [Bool.and_eq_true] at h
  rw [h.1.1.1, h.1.1.2, h.1.2]; rfl
theorem numsV_le (ws : List (List UInt8)) : ∀ n ∈ numsV ws, -100000000000000000 ≤ n ∧ n ≤ 100000000000000000 := by
  intro n hn
  obtain ⟨s, _, rfl⟩ := List.mem_map.1 hn
  exact numV_le s
theorem vdR_le (t : List UInt8) : ∀ k, ∀ s ∈ (vdR t k).1, s.2.1 ≤ 9223372036854775807
  | 0 => fun s hs => by cases hs
  | k + 1 => fun s hs => by
    cases h : mkLB (lnW t k) with
    | true => rw [vdR_mark h] at hs; exact vdR_le t k s hs
    | false =>
      rw [vdR_str h] at hs
      rcases List.mem_append.1 hs with hs | hs
      · exact vdR_le t k s hs
      · have e := List.mem_singleton.1 hs
        subst e
        have := (numV_le ((lnW t k).getD 2 [])).2
        show numV ((lnW t k).getD 2 []) 9 ≤ _
        omega
theorem readVd_sz (t : List UInt8) (ht : t.length ≤ 1000000) : (readVd t).1.length ≤ 1000001 ∧ (readVd t).2.1.length ≤ 1000001 := by
  have h1 := vdR_len t (linesL t).length
  have h2 := (linesL_le t).1
  unfold readVd
  split
  · simp
  · split
    · simp
    · split
      · exact ⟨by show (vdR t (linesL t).length).1.length ≤ _; omega, by show (vdR t (linesL t).length).2.length ≤ _; omega⟩
      · simp
set_option maxHeartbeats 2000000 in
set_option maxRecDepth 100000 in
theorem numbers_any (A : Option Addr) (c lo : Nat) (ws : List (List UInt8)) (w : World) (hr : Row w lo 1 A ws.length (strs ws)) (hl : ws.length ≤ 1000001) (hx : ∀ x ∈ ws, x.length ≤ 1000000) :
    Calls Tryz.prog 40 #[.slice A ws.length c, .int .i64 9] w (NumsPost w ws) := by
  have HX := Lib.hid hx
  have BAD : Hid (∀ W', numsB ws = false → Below w.heap.size w W' → NumsPost w ws (.returned (.tuple #[.slice none 0 0, .bool false])) W') := Lib.hid (fun W' h hb => by
    refine ⟨none, 0, ?_, ?_, ?_, hb⟩
    · rw [h, show nmL ws = [] by unfold nmL; rw [h]; rfl]; rfl
    · rw [show nmL ws = [] by unfold nmL; rw [h]; rfl]; exact World.ownsRow_nil _ _ _ _
    · rw [show nmL ws = [] by unfold nmL; rw [h]; rfl]; exact Nat.le_refl _)
  have GOOD : Hid (∀ A' c' W', numsB (ws.take ws.length) = true → W'.ownsRow w.heap.size 3 1 (.slice A' (numsV (ws.take ws.length)).length c') (numsV (ws.take ws.length)).length (ints (numsV (ws.take ws.length))) → Below w.heap.size w W' → NumsPost w ws (.returned (.tuple #[.slice A' (numsV (ws.take ws.length)).length c', .bool true])) W') := Lib.hid (fun A' c' W' h ho hb => by
    rw [List.take_length] at h ho ⊢
    have e : nmL ws = numsV ws := by unfold nmL; rw [h]; rfl
    refine ⟨A', c', by rw [h, e], by rw [e]; exact ho, ?_, hb⟩
    rw [e]
    rcases ho.2 with ⟨h1, h2⟩ | ⟨g, cap, cur, hv, _, _, h3, _⟩
    · rw [h2]; exact Nat.zero_le _
    · injection hv with _ _ h4
      omega)
  generalize hP : NumsPost w ws = Post at *
  clear hP hx
  go_enter Tryz.func40, Tryz.ntmps40
  go_wp2_with fail
  go_loopw [6, 13] (fun v i wr => ∃ (k : Nat) (A' : Option Addr) (c' : Nat), k ≤ ws.length ∧ i = .int .i64 k ∧ v = .slice A' (numsV (ws.take k)).length c' ∧ wr.ownsRow w.heap.size 3 1 (.slice A' (numsV (ws.take k)).length c') (numsV (ws.take k)).length (ints (numsV (ws.take k))) ∧ Hid (numsB (ws.take k) = true) ∧ Below w.heap.size w wr) (fun _ i _ => ws.length - (intOf i).toNat)
  case atStart => exact ⟨0, none, 0, Nat.zero_le _, rfl, rfl, World.ownsRow_nil _ _ _ _, Lib.hid rfl, Below.refl _ _⟩
  case round =>
    obtain ⟨k, A', c', hk, rfl, rfl, hown, hall, hbw⟩ := hrel
    by_cases hlt : k < ws.length
    · obtain ⟨b, off, rfl, _, hbs, c0⟩ := (hr.below hbw).str_at hlt
      have hsx := HX.out ws[k] (List.getElem_mem _)
      have HT := Lib.hid (nums_take hlt)
      have HNO : Hid (numB ws[k] 9 = false → numsB ws = false) := Lib.hid (nums_no hlt)
      have hol : (numsV (ws.take k)).length ≤ 1000001 := by rw [numsV_len]; have := List.length_take_le k ws; omega
      have hz := hbw.size
      generalize ws[k] = s at *
      generalize numsV (ws.take k) = o at *
      go_wp2_with fail
      refine (number_any s 9 _ (by omega) (by omega)).mono ?_
      rintro e w1 ⟨rfl, hb⟩
      have hown := own_keep hown hb
      have hbw := below_up hbw hb
      have hz := hbw.size
      clear hb
      cases hn : numB s 9 with
      | false =>
        have HN := Lib.hid (HNO.out hn)
        clear hn HNO HT
        go_wp2_with fail
        exact BAD.out _ HN.out hbw
      | true =>
        have HN := Lib.hid hn
        clear hn HNO
        generalize numV s 9 = n at *
        go_wp2_with (at_builtin; go_must (refine wpList_app (lo := w.heap.size) (base := w.heap.size) (n := o.length) (xs := ints o) _ _ rfl _ _ ty_ints rfl (by repeat (first | exact hown | refine World.ownsRow.alloc ?_ _ | refine own_drewN ?_ _ | refine World.ownsRow.drew ?_)) rfl (by first | exact row_new' _ (by first | rfl | simp) (by first | omega | (simp; omega)) rfl | exact row_newN _ _ (by first | rfl | simp) (by first | omega | (simp; omega)) rfl | exact row_newD _ (by first | rfl | simp) (by first | omega | (simp; omega)) rfl) rfl rfl (by first | omega | decide) (by first | omega | decide) (by first | omega | (simp; omega)) ?_))
        intro A5 c5 w5 hown5 hg5 _
        go_wp2_with fail
        go_roundw
        case rel => exact ⟨k + 1, A5, c5, by omega, by go_num, by rw [HT.out.1]; simp, by rw [HT.out.1]; simpa [ints] using hown5, Lib.hid (by rw [HT.out.2, hall.out, HN.out]; rfl), below_app hown (by repeat (first | exact hbw | refine Below.alloc ?_ (by first | omega | (simp; omega)) _ | refine below_drewN' ?_ _ | refine Below.drew ?_)) hg5 (Nat.le_refl _) (by simp; omega)⟩
        case measure => simp [intOf]; omega
    · have hkk : k = ws.length := by omega
      subst hkk
      have HO := Lib.hid hown
      generalize numsV (ws.take ws.length) = o at *
      go_wp2_with fail
      exact GOOD.out _ _ _ hall.out HO.out hbw
set_option maxHeartbeats 2000000 in
set_option maxRecDepth 100000 in
theorem ints_any (A : Option Addr) (c lo : Nat) (ws : List (List UInt8)) (w : World) (hr : Row w lo 1 A ws.length (strs ws)) (hl : ws.length ≤ 1000001) (hx : ∀ x ∈ ws, x.length ≤ 1000000) (hE : Env w) :
    Calls Tryz.prog 45 #[.slice A ws.length c, .int .i64 9] w (NumsPost w ws) := by
  have HX := Lib.hid hx
  have BAD : Hid (∀ W', numsB ws = false → Below w.heap.size w W' → NumsPost w ws (.returned (.tuple #[.slice none 0 0, .bool false])) W') := Lib.hid (fun W' h hb => by
    refine ⟨none, 0, ?_, ?_, ?_, hb⟩
    · rw [h, show nmL ws = [] by unfold nmL; rw [h]; rfl]; rfl
    · rw [show nmL ws = [] by unfold nmL; rw [h]; rfl]; exact World.ownsRow_nil _ _ _ _
    · rw [show nmL ws = [] by unfold nmL; rw [h]; rfl]; exact Nat.le_refl _)
  have GOOD : Hid (∀ A' c' W', numsB (ws.take ws.length) = true → W'.ownsRow w.heap.size 3 1 (.slice A' (numsV (ws.take ws.length)).length c') (numsV (ws.take ws.length)).length (ints (numsV (ws.take ws.length))) → Below w.heap.size w W' → NumsPost w ws (.returned (.tuple #[.slice A' (numsV (ws.take ws.length)).length c', .bool true])) W') := Lib.hid (fun A' c' W' h ho hb => by
    rw [List.take_length] at h ho ⊢
    have e : nmL ws = numsV ws := by unfold nmL; rw [h]; rfl
    refine ⟨A', c', by rw [h, e], by rw [e]; exact ho, ?_, hb⟩
    rw [e]
    rcases ho.2 with ⟨h1, h2⟩ | ⟨g, cap, cur, hv, _, _, h3, _⟩
    · rw [h2]; exact Nat.zero_le _
    · injection hv with _ _ h4
      omega)
  generalize hP : NumsPost w ws = Post at *
  clear hP hx
  go_enter Tryz.func45, Tryz.ntmps45
  go_wp2_with fail
  go_loopw [6, 13] (fun v i wr => ∃ (k : Nat) (A' : Option Addr) (c' : Nat), k ≤ ws.length ∧ i = .int .i64 k ∧ v = .slice A' (numsV (ws.take k)).length c' ∧ wr.ownsRow w.heap.size 3 1 (.slice A' (numsV (ws.take k)).length c') (numsV (ws.take k)).length (ints (numsV (ws.take k))) ∧ Hid (numsB (ws.take k) = true) ∧ Below w.heap.size w wr) (fun _ i _ => ws.length - (intOf i).toNat)
  case atStart => exact ⟨0, none, 0, Nat.zero_le _, rfl, rfl, World.ownsRow_nil _ _ _ _, Lib.hid rfl, Below.refl _ _⟩
  case round =>
    obtain ⟨k, A', c', hk, rfl, rfl, hown, hall, hbw⟩ := hrel
    by_cases hlt : k < ws.length
    · obtain ⟨b, off, rfl, _, hbs, c0⟩ := (hr.below hbw).str_at hlt
      have hsx := HX.out ws[k] (List.getElem_mem _)
      have HT := Lib.hid (nums_take hlt)
      have HNO : Hid (numB ws[k] 9 = false → numsB ws = false) := Lib.hid (nums_no hlt)
      have hol : (numsV (ws.take k)).length ≤ 1000001 := by rw [numsV_len]; have := List.length_take_le k ws; omega
      have hz := hbw.size
      generalize ws[k] = s at *
      generalize numsV (ws.take k) = o at *
      go_wp2_with fail
      refine (int_any s 9 _ (by omega) (by omega) (hE.below hbw)).mono ?_
      rintro e w1 ⟨rfl, hb⟩
      have hown := own_keep hown hb
      have hbw := below_up hbw hb
      have hz := hbw.size
      clear hb
      cases hn : numB s 9 with
      | false =>
        have HN := Lib.hid (HNO.out hn)
        clear hn HNO HT
        go_wp2_with fail
        exact BAD.out _ HN.out hbw
      | true =>
        have HN := Lib.hid hn
        rw [intV_numV hn]
        clear hn HNO
        generalize numV s 9 = n at *
        go_wp2_with (at_builtin; go_must (refine wpList_app (lo := w.heap.size) (base := w.heap.size) (n := o.length) (xs := ints o) _ _ rfl _ _ ty_ints rfl (by repeat (first | exact hown | refine World.ownsRow.alloc ?_ _ | refine own_drewN ?_ _ | refine World.ownsRow.drew ?_)) rfl (by first | exact row_new' _ (by first | rfl | simp) (by first | omega | (simp; omega)) rfl | exact row_newN _ _ (by first | rfl | simp) (by first | omega | (simp; omega)) rfl | exact row_newD _ (by first | rfl | simp) (by first | omega | (simp; omega)) rfl) rfl rfl (by first | omega | decide) (by first | omega | decide) (by first | omega | (simp; omega)) ?_))
        intro A5 c5 w5 hown5 hg5 _
        go_wp2_with fail
        go_roundw
        case rel => exact ⟨k + 1, A5, c5, by omega, by go_num, by rw [HT.out.1]; simp, by rw [HT.out.1]; simpa [ints] using hown5, Lib.hid (by rw [HT.out.2, hall.out, HN.out]; rfl), below_app hown (by repeat (first | exact hbw | refine Below.alloc ?_ (by first | omega | (simp; omega)) _ | refine below_drewN' ?_ _ | refine Below.drew ?_)) hg5 (Nat.le_refl _) (by simp; omega)⟩
        case measure => simp [intOf]; omega
    · have hkk : k = ws.length := by omega
      subst hkk
      have HO := Lib.hid hown
      generalize numsV (ws.take ws.length) = o at *
      go_wp2_with fail
      exact GOOD.out _ _ _ hall.out HO.out hbw
/-- The words for marks, as the program and the reference keep them. -/
theorem marksW_any (w : World) : Calls Tryz.prog 29 #[] w fun e w' => ∃ b, e = .returned (.slice (some ⟨b, 0, none⟩) 5 5) ∧ w.heap.size ≤ b ∧ Blk w' b 9 (strs mkWs).toArray ∧ Below w.heap.size w w' := by
  go_enter Tryz.func29, Tryz.ntmps29
  go_wp2_with fail
  go_ret
  exact ⟨_, rfl, Nat.le_refl _, Blk.new _ _ _, (Below.refl _ _).alloc (Nat.le_refl _) _⟩
theorem markWords_any (w : World) : Calls Tryz.prog 34 #[] w fun e w' => ∃ b, e = .returned (.slice (some ⟨b, 0, none⟩) 6 6) ∧ w.heap.size ≤ b ∧ Blk w' b 9 (strs ([] :: mkWs)).toArray ∧ Below w.heap.size w w' := by
  go_enter Tryz.func34, Tryz.ntmps34
  go_wp2_with fail
  go_ret
  exact ⟨_, rfl, Nat.le_refl _, Blk.new _ _ _, (Below.refl _ _).alloc (Nat.le_refl _) _⟩
end Go.Proofs.YtlinbaojkmcbeaaGreatDoor
