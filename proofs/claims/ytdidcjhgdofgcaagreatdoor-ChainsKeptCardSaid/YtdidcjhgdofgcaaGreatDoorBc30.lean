/- Texts of this seat, laid together: Tg It Iu. -/
import Derived.Handy
import Derived.Test.YtdidcjhgdofgcaaGreatDoorBc27
import Derived.Test.YtdidcjhgdofgcaaGreatDoorBc28
import Derived.Test.YtdidcjhgdofgcaaGreatDoorBc29
import Derived.Test.YtdidcjhgdofgcaaGreatDoorBc02
import Derived.Test.YtdidcjhgdofgcaaGreatDoorBc09
/- Plain laws of texts: numbers as words, words as lines, lines as a text. -/
namespace Go.Proofs.YtdidcjhgdofgcaaGreatDoor
set_option linter.unusedVariables false
set_option linter.unusedSimpArgs false
open Go.RowKit Go.Sort

theorem decDigits_unsign (u : Nat) : unsign (Lib.decDigits u) = Lib.decDigits u := by
  have h := (decDigits_digs u).1
  cases hd : Lib.decDigits u with
  | nil => exact absurd hd (decDigits_ne u)
  | cons b r =>
    rw [hd] at h
    refine unsign_pos b r ?_
    rintro rfl
    have := (List.all_eq_true.1 h) 45 (by simp)
    revert this; decide
theorem valS_dec (u : Nat) : valS (Lib.decDigits u) = u := by
  have h := (decDigits_digs u)
  have hu := decDigits_unsign u
  have hh : (Lib.decDigits u).head? ≠ some 45 := by
    cases hd : Lib.decDigits u with
    | nil => simp
    | cons b r =>
      rw [hd] at h
      intro e
      have : b = 45 := by simpa using e
      subst this
      have := (List.all_eq_true.1 h.1) 45 (by simp)
      revert this; decide
  unfold valS
  rw [if_neg hh, hu, h.2]
theorem numB_dec (u m : Nat) (h : u < 10 ^ m) (hm : 1 ≤ m) : numB (Lib.decDigits u) m = true := by
  have hd := (decDigits_digs u).1
  have hu := decDigits_unsign u
  have hl : (Lib.decDigits u).length ≤ m := by rw [Lib.decDigits_length]; exact nDigits_le m u h hm
  have hp : 1 ≤ (Lib.decDigits u).length := by rw [Lib.decDigits_length]; exact Lib.nDigits_pos u
  have key := itoa_valS (Lib.decDigits u) (by rw [hu]; exact hd) (by rw [hu]; exact decDigits_ne u)
  rw [valS_dec, Lib.itoa_nonneg, decide_eq_true rfl] at key
  unfold numB
  rw [← key, hu, hd, decide_eq_true hl, decide_eq_true hp]; rfl
theorem numB_itoaN (n : Int) (h0 : 0 ≤ n) (h1 : n < 1000000000) : numB (Lib.itoa n) 9 = true ∧ numV (Lib.itoa n) 9 = n := by
  obtain ⟨u, rfl⟩ := Int.eq_ofNat_of_zero_le h0
  rw [Lib.itoa_nonneg]
  have hb := numB_dec u 9 (by have : (10 : Nat) ^ 9 = 1000000000 := by decide
                              omega) (by decide)
  refine ⟨hb, ?_⟩
  unfold numV
  rw [hb, if_pos rfl, valS_dec]
theorem itoa_numV {s : List UInt8} {m : Nat} (h : numB s m = true) : Lib.itoa (numV s m) = s := by
  have h' := h
  unfold numB at h
  simp only [Bool.and_eq_true, decide_eq_true_eq] at h
  have hn : unsign s ≠ [] := by intro e; rw [e] at h; simp at h
  have e := itoa_valS s h.1.1.1 hn
  rw [h.2] at e
  unfold numV
  rw [h', if_pos rfl]
  exact of_decide_eq_true e
/-- Which bytes a number has. -/
theorem dec_bytes (u : Nat) : ∀ b ∈ Lib.decDigits u, 48 ≤ b.toNat ∧ b.toNat ≤ 57 := by
  intro b hb
  have := (List.all_eq_true.1 (decDigits_digs u).1) b hb
  simpa using this
/-- Any number from 0 on is read as it was written. -/
theorem numB_itoaM (n : Int) (m : Nat) (hm : 1 ≤ m) (h0 : 0 ≤ n) (h1 : n < ((10 ^ m : Nat) : Int)) : numB (Lib.itoa n) m = true ∧ numV (Lib.itoa n) m = n := by
  obtain ⟨u, rfl⟩ := Int.eq_ofNat_of_zero_le h0
  rw [Lib.itoa_nonneg]
  have hb := numB_dec u m (by omega) hm
  refine ⟨hb, ?_⟩
  unfold numV
  rw [hb, if_pos rfl, valS_dec]
theorem itoa_free (n : Int) (h0 : 0 ≤ n) : (10 : UInt8) ∉ Lib.itoa n ∧ (32 : UInt8) ∉ Lib.itoa n ∧ Lib.itoa n ≠ [] := by
  obtain ⟨u, rfl⟩ := Int.eq_ofNat_of_zero_le h0
  rw [Lib.itoa_nonneg]
  refine ⟨fun h => ?_, fun h => ?_, decDigits_ne u⟩
  · have := dec_bytes u 10 h; revert this; decide
  · have := dec_bytes u 32 h; revert this; decide
theorem joinTail_free {c : UInt8} (hc : c ≠ 32) : ∀ {ws : List (List UInt8)}, (∀ x ∈ ws, c ∉ x) → c ∉ Lib.joinTail [32] ws
  | [], _ => by simp [Lib.joinTail]
  | x :: ws, h => by
    have ih := joinTail_free hc (ws := ws) (fun y hy => h y (by simp [hy]))
    have e : Lib.joinTail [32] (x :: ws) = 32 :: (x ++ Lib.joinTail [32] ws) := by simp [Lib.joinTail]
    rw [e]
    intro hm
    rcases List.mem_cons.1 hm with hm | hm
    · exact hc hm
    · rcases List.mem_append.1 hm with hm | hm
      · exact h x (by simp) hm
      · exact ih hm
theorem join_cut (c : UInt8) (l : List UInt8) : ∃ x ws, cutAt c l = x :: ws ∧ l = x ++ Lib.joinTail [c] ws := by
  induction l with
  | nil => exact ⟨[], [], rfl, rfl⟩
  | cons b l ih =>
    obtain ⟨x, ws, e1, e2⟩ := ih
    unfold cutAt
    by_cases h : b = c
    · subst h
      rw [if_pos rfl, e1]
      exact ⟨[], x :: ws, rfl, by
        have : Lib.joinTail [b] (x :: ws) = b :: (x ++ Lib.joinTail [b] ws) := by simp [Lib.joinTail]
        rw [this, ← e2]; rfl⟩
    · rw [if_neg h, e1]
      exact ⟨b :: x, ws, rfl, by rw [List.cons_append, ← e2]⟩
/-- A text whose last line is ended is its lines. -/
theorem text_lines (t : List UInt8) (h : endsB t = true) : t = (linesL t).flatMap (· ++ [10]) := by
  induction hk : t.length using Nat.strongRecOn generalizing t with
  | _ n ih =>
    by_cases h0 : t = []
    · subst h0; rfl
    · rcases split_first 10 t with hn | ⟨a, r, rfl, hn⟩
      · rw [(lines_last t hn h0).2] at h; cases h
      · obtain ⟨e1, e2⟩ := lines_cons a r hn
        rw [e1, List.flatMap_cons, ← ih r.length (by subst hk; simp; omega) r (by rw [← e2]; exact h) rfl]
        simp
theorem lines_text : ∀ (ls : List (List UInt8)), (∀ x ∈ ls, (10 : UInt8) ∉ x) → linesL (ls.flatMap (· ++ [10])) = ls ∧ endsB (ls.flatMap (· ++ [10])) = true
  | [], _ => ⟨rfl, rfl⟩
  | x :: ls, h => by
    obtain ⟨i1, i2⟩ := lines_text ls (fun y hy => h y (by simp [hy]))
    have e : (x :: ls).flatMap (· ++ [10]) = x ++ 10 :: ls.flatMap (· ++ [10]) := by simp
    obtain ⟨e1, e2⟩ := lines_cons x (ls.flatMap (· ++ [10])) (h x (by simp))
    rw [e, e1, e2, i1, i2]; exact ⟨rfl, rfl⟩
end Go.Proofs.YtdidcjhgdofgcaaGreatDoor
/- Plain laws: an input as text; what is written is read again, what is read is written so. -/
namespace Go.Proofs.YtdidcjhgdofgcaaGreatDoor
set_option linter.unusedVariables false
set_option linter.unusedSimpArgs false
open Go.RowKit Go.Sort

/-! ### what is held, as letters -/
def letL : List UInt8 := [108, 114, 117, 100, 97, 98]
/-- The letters of the first so many buttons. -/
def hldP (h : Int) : Nat → List UInt8
  | 0 => []
  | k + 1 => if hasB h (btns.getD k 0) then hldP h k ++ [letL.getD k 0] else hldP h k
def hldT (h : Int) : List UInt8 := if hldP h 6 = [] then [45] else hldP h 6
/-- Which letters a word has. -/
def hasL (s : List UInt8) : List Bool := letL.map fun c => decide (c ∈ s)
def orN (bs : List Bool) : Nat → Int
  | 0 => 0
  | k + 1 => if bs.getD k false then bits .or .i64 (orN bs k) (btns.getD k 0) else orN bs k
def hldR (s : List UInt8) : Int := orN (hasL s) 6
theorem hldP_next (h : Int) (k : Nat) : hldP h (k + 1) = if hasB h (btns.getD k 0) then hldP h k ++ [letL.getD k 0] else hldP h k := rfl
theorem orN_next (bs : List Bool) (k : Nat) : orN bs (k + 1) = if bs.getD k false then bits .or .i64 (orN bs k) (btns.getD k 0) else orN bs k := rfl
theorem orN_all : ∀ a b c d e f : Bool, ∀ k : Fin 7, 0 ≤ orN [a, b, c, d, e, f] k.val ∧ orN [a, b, c, d, e, f] k.val ≤ 63 := by decide +kernel
theorem hasL_six (s : List UInt8) : ∃ a b c d e f, hasL s = [a, b, c, d, e, f] := ⟨_, _, _, _, _, _, rfl⟩
theorem orN_le (s : List UInt8) {k : Nat} (hk : k ≤ 6) : 0 ≤ orN (hasL s) k ∧ orN (hasL s) k ≤ 63 := by
  obtain ⟨a, b, c, d, e, f, h⟩ := hasL_six s
  rw [h]
  exact orN_all a b c d e f ⟨k, by omega⟩
theorem hldR_le (s : List UInt8) : 0 ≤ hldR s ∧ hldR s ≤ 63 := orN_le s (Nat.le_refl _)
theorem hldT_all : ∀ h : Fin 64, hldR (hldT (h.val : Int)) = (h.val : Int) ∧ (10 : UInt8) ∉ hldT (h.val : Int) ∧ (32 : UInt8) ∉ hldT (h.val : Int) ∧ (hldT (h.val : Int)).length ≤ 6 ∧ 1 ≤ (hldT (h.val : Int)).length := by decide +kernel
theorem hldT_free {h : Int} (h0 : 0 ≤ h) (h1 : h ≤ 63) : hldR (hldT h) = h ∧ (10 : UInt8) ∉ hldT h ∧ (32 : UInt8) ∉ hldT h ∧ (hldT h).length ≤ 6 ∧ 1 ≤ (hldT h).length := by
  obtain ⟨n, rfl⟩ := Int.eq_ofNat_of_zero_le h0
  exact hldT_all ⟨n, by omega⟩
theorem hldT_ne {h : Int} (h0 : 0 ≤ h) (h1 : h ≤ 63) : hldT h ≠ [] := fun e => by
  have := (hldT_free h0 h1).2.2.2.2
  rw [e] at this; simp at this

/-! ### an input as text -/
/-- A piece's line. -/
def pcLn (p : Int × Int) : List UInt8 := hldT p.1 ++ Lib.joinTail [32] [Lib.itoa p.2]
def pcT (p : Int × Int) : List UInt8 := hldT p.1 ++ [32] ++ Lib.itoa p.2 ++ [10]
theorem pcT_ln (p : Int × Int) : pcT p = pcLn p ++ [10] := by unfold pcT pcLn; simp [Lib.joinTail]
def inT (ps : List (Int × Int)) : Nat → List UInt8
  | 0 => []
  | k + 1 => inT ps k ++ pcT (ps.getD k (0, 0))
theorem inT_next {ps : List (Int × Int)} {k : Nat} (h : k < ps.length) : inT ps (k + 1) = inT ps k ++ pcT ps[k] := by
  show inT ps k ++ pcT (ps.getD k (0, 0)) = _
  rw [List.getD_eq_getElem?_getD, List.getElem?_eq_getElem h]; rfl
theorem inT_flat (ps : List (Int × Int)) : ∀ k, k ≤ ps.length → inT ps k = ((ps.take k).map pcLn).flatMap (· ++ [10])
  | 0, _ => rfl
  | k + 1, hk => by
    rw [inT_next hk, inT_flat ps k (by omega), pcT_ln, List.take_succ_eq_append_getElem hk, List.map_append, List.flatMap_append]
    congr 1
    simp
/-- A text is of so many bytes at most. -/
theorem pcT_len {p : Int × Int} (h0 : 0 ≤ p.1) (h1 : p.1 ≤ 63) (h2 : 0 ≤ p.2) (h3 : p.2 ≤ 1000000000) : (pcT p).length ≤ 27 := by
  have a := (hldT_free h0 h1).2.2.2.1
  have b := itoa_len p.2 (by omega) (by omega)
  unfold pcT
  simp only [List.length_append, List.length_cons, List.length_nil]
  omega
theorem inT_len {ps : List (Int × Int)} (h : ∀ p ∈ ps, 0 ≤ p.1 ∧ p.1 ≤ 63 ∧ 1 ≤ p.2 ∧ p.2 ≤ 200000) : ∀ k, k ≤ ps.length → (inT ps k).length ≤ 27 * k
  | 0, _ => Nat.le_refl _
  | k + 1, hk => by
    have hp := h ps[k] (List.getElem_mem _)
    have h1 := pcT_len hp.1 hp.2.1 (by omega) (by omega)
    have h2 := inT_len h k (by omega)
    rw [inT_next hk, List.length_append]; omega

/-! ### reading -/
def lnW (t : List UInt8) (k : Nat) : List (List UInt8) := cutAt 32 ((linesL t).getD k [])
theorem lnW_at {t : List UInt8} {k : Nat} (h : k < (linesL t).length) : lnW t k = cutAt 32 (linesL t)[k] := by
  unfold lnW; rw [List.getD_eq_getElem?_getD, List.getElem?_eq_getElem h]; rfl
/-- A line as a piece, and whether its words are one. -/
def pcB (ws : List (List UInt8)) : Bool := decide (ws.length = 2) && (decide (hldT (hldR (ws.getD 0 [])) = ws.getD 0 []) && numB (ws.getD 1 []) 6)
def pcI (t : List UInt8) (k : Nat) : Int × Int := (hldR ((lnW t k).getD 0 []), numV ((lnW t k).getD 1 []) 6)
def pcsI (t : List UInt8) (n : Nat) : List (Int × Int) := (List.range n).map (pcI t)
def okI (t : List UInt8) (k : Nat) : Bool := pcB (lnW t k) && (decide (k = 0) || decide ((pcI t (k - 1)).1 ≠ (pcI t k).1))
theorem pcsI_len (t : List UInt8) (n : Nat) : (pcsI t n).length = n := by simp [pcsI]
theorem pcsI_next (t : List UInt8) (n : Nat) : pcsI t (n + 1) = pcsI t n ++ [pcI t n] := by simp [pcsI, List.range_succ]
theorem pcsI_at {t : List UInt8} {n k : Nat} (h : k < n) : (pcsI t n)[k]'(by rw [pcsI_len]; exact h) = pcI t k := by simp [pcsI]
/-- What is read of a text: the pieces, the line that is wrong, the error. -/
def readI (t : List UInt8) : List (Int × Int) × Int × Int :=
  if 200000 < t.length then ([], 0, 2) else
  match stopL t (okI t) with
  | some i => ([], (i : Int), 9)
  | none => if inFault (pcsI t (linesL t).length) = 0 then (pcsI t (linesL t).length, 0, 0) else ([], 0, inFault (pcsI t (linesL t).length))
theorem readI_large {t : List UInt8} (h : 200000 < t.length) : readI t = ([], 0, 2) := by unfold readI; rw [if_pos h]
theorem readI_stop {t : List UInt8} (h : ¬ 200000 < t.length) {i : Nat} (hs : stopL t (okI t) = some i) : readI t = ([], (i : Int), 9) := by unfold readI; rw [if_neg h, hs]
theorem readI_bad {t : List UInt8} (h : ¬ 200000 < t.length) (hs : stopL t (okI t) = none) (hf : inFault (pcsI t (linesL t).length) ≠ 0) : readI t = ([], 0, inFault (pcsI t (linesL t).length)) := by unfold readI; rw [if_neg h, hs]; simp [hf]
theorem readI_ok {t : List UInt8} (h : ¬ 200000 < t.length) (hs : stopL t (okI t) = none) (hf : inFault (pcsI t (linesL t).length) = 0) : readI t = (pcsI t (linesL t).length, 0, 0) := by unfold readI; rw [if_neg h, hs]; simp [hf]

/-! ### tidy inputs -/
/-- Neighbours hold other things. -/
def Adj (ps : List (Int × Int)) : Prop := ∀ i (h : i + 1 < ps.length), (ps[i]'(by omega)).1 ≠ ps[i + 1].1
theorem tidyM_id {ps : List (Int × Int)} (h1 : ∀ p ∈ ps, 1 ≤ p.2) (h2 : Adj ps) : tidyM ps = ps := by
  have h : ∀ k, k ≤ ps.length → tidyM (ps.take k) = ps.take k := by
    intro k
    induction k with
    | zero => intro _; rfl
    | succ k ih =>
      intro hk
      have hp := h1 ps[k] (List.getElem_mem _)
      rw [tidyM_take ps k hk, ih (by omega), List.take_succ_eq_append_getElem hk]
      cases k with
      | zero => rw [List.take_zero, fadd_first _ _ (by omega)]; rfl
      | succ j =>
        rw [fadd_push _ _ _ (by omega) j (by simp; omega) (by
          rw [List.getElem_take]
          exact h2 j hk)]
  have := h ps.length (Nat.le_refl _)
  rwa [List.take_length] at this
theorem tidyM_good {ps : List (Int × Int)} (h : ∀ p ∈ ps, 0 ≤ p.1 ∧ p.1 ≤ 63 ∧ 1 ≤ p.2) : (∀ p ∈ tidyM ps, 0 ≤ p.1 ∧ p.1 ≤ 63 ∧ 1 ≤ p.2) ∧ Adj (tidyM ps) := by
  have H : ∀ k, k ≤ ps.length → (∀ p ∈ tidyM (ps.take k), 0 ≤ p.1 ∧ p.1 ≤ 63 ∧ 1 ≤ p.2) ∧ Adj (tidyM (ps.take k)) := by
    intro k
    induction k with
    | zero => intro _; exact ⟨fun p hp => by simp [tidyM] at hp, fun i hi => by simp [tidyM] at hi⟩
    | succ k ih =>
      intro hk
      obtain ⟨i1, i2⟩ := ih (by omega)
      have hp := h ps[k] (List.getElem_mem _)
      rw [tidyM_take ps k hk]
      generalize tidyM (ps.take k) = out at *
      generalize ps[k] = p at *
      by_cases h0 : out.length = 0
      · have : out = [] := List.eq_nil_of_length_eq_zero h0
        subst this
        rw [fadd_first _ _ (by omega)]
        exact ⟨fun q hq => by simp at hq; subst hq; exact hp, fun i hi => by simp at hi⟩
      · obtain ⟨m, hm⟩ : ∃ m, m + 1 = out.length := ⟨out.length - 1, by omega⟩
        by_cases he : (out[m]'(by omega)).1 = p.1
        · rw [fadd_bump out p.1 p.2 (by omega) m hm he]
          have hq := i1 (out[m]'(by omega)) (List.getElem_mem _)
          refine ⟨fun q hq' => ?_, fun i hi => ?_⟩
          · rcases List.mem_or_eq_of_mem_set hq' with h3 | h3
            · exact i1 q h3
            · subst h3; exact ⟨hq.1, hq.2.1, by show 1 ≤ _ + _; omega⟩
          · have hi' : i + 1 < out.length := by simpa using hi
            have := i2 i hi'
            rw [List.getElem_set_ne (by omega), List.getElem_set]
            split
            · rename_i h5; subst h5; exact this
            · exact this
        · rw [fadd_push out p.1 p.2 (by omega) m hm he]
          refine ⟨fun q hq' => ?_, fun i hi => ?_⟩
          · rcases List.mem_append.1 hq' with h3 | h3
            · exact i1 q h3
            · simp at h3; subst h3; exact hp
          · rw [List.length_append, List.length_singleton] at hi
            rw [List.getElem_append_left (by omega)]
            by_cases h6 : i + 1 < out.length
            · rw [List.getElem_append_left h6]; exact i2 i h6
            · rw [List.getElem_append_right (by omega)]
              have : i = m := by omega
              subst this
              simpa using he
  have := H ps.length (Nat.le_refl _)
  rwa [List.take_length] at this
/-- The tidy form of a right input is right and tidy. -/
theorem tidy_right {ps : List (Int × Int)} (h : inFault ps = 0) : inFault (tidyR ps) = 0 ∧ Adj (tidyR ps) ∧ tidyR ps = tidyM ps := by
  obtain ⟨h1, h2, h3⟩ := inFault_ok h
  have e : tidyR ps = tidyM ps := by rw [tidyR_ok h, fold_unf ps (fun p hp => by have := h2 p hp; omega)]
  obtain ⟨g1, g2⟩ := tidyM_good (ps := ps) (fun p hp => by have := h2 p hp; exact ⟨this.1, this.2.1, this.2.2.1⟩)
  have hs := tidyM_psum ps
  refine ⟨?_, by rw [e]; exact g2, e⟩
  rw [e, inFault_good _ (Nat.le_trans (tidyM_len ps) h1) (fun p hp => by
    have a := g1 p hp
    have b := mem_le_psum (tidyM ps) (fun q hq => by have := g1 q hq; omega) p hp
    exact (vld_iff p).2 ⟨a.1, a.2.1, a.2.2, by omega⟩), hs, if_neg (by omega)]
theorem tidy_same {ps : List (Int × Int)} (h : inFault ps = 0) (ha : Adj ps) : tidyR ps = ps := by
  obtain ⟨h1, h2, h3⟩ := inFault_ok h
  rw [tidyR_ok h, fold_unf ps (fun p hp => by have := h2 p hp; omega)]
  exact tidyM_id (fun p hp => by have := h2 p hp; omega) ha

/-! ### the two laws -/
/-- What is written of a tidy input is read as it was. -/
theorem input_comes {ps : List (Int × Int)} (h : inFault ps = 0) (ha : Adj ps) (hl : (inT ps ps.length).length ≤ 200000) : readI (inT ps ps.length) = (ps, 0, 0) := by
  obtain ⟨h1, h2, h3⟩ := inFault_ok h
  have hT : inT ps ps.length = (ps.map pcLn).flatMap (· ++ [10]) := by
    have := inT_flat ps ps.length (Nat.le_refl _)
    rwa [List.take_length] at this
  have hfree : ∀ x ∈ ps.map pcLn, (10 : UInt8) ∉ x := by
    intro x hx
    obtain ⟨p, hp, rfl⟩ := List.mem_map.1 hx
    have a := h2 p hp
    unfold pcLn
    intro hm
    rcases List.mem_append.1 hm with hm | hm
    · exact (hldT_free a.1 a.2.1).2.1 hm
    · exact joinTail_free (by decide) (fun s hs => by simp at hs; subst hs; exact (itoa_free p.2 (by omega)).1) hm
  obtain ⟨L1, L2⟩ := lines_text _ hfree
  rw [← hT] at L1 L2
  generalize inT ps ps.length = t at *
  have hn : (linesL t).length = ps.length := by rw [L1]; simp
  have wk : ∀ j (hj : j < ps.length), lnW t j = [hldT ps[j].1, Lib.itoa ps[j].2] := by
    intro j hj
    have a := h2 ps[j] (List.getElem_mem _)
    unfold lnW
    rw [L1]
    have e : (ps.map pcLn).getD j [] = pcLn ps[j] := by simp [hj]
    rw [e]
    refine cutAt_join 32 _ [Lib.itoa ps[j].2] (fun y hy => ?_)
    rcases List.mem_cons.1 hy with rfl | hy
    · exact (hldT_free a.1 a.2.1).2.2.1
    · simp at hy; subst hy; exact (itoa_free ps[j].2 (by omega)).2.1
  have pk : ∀ j (hj : j < ps.length), pcI t j = ps[j] ∧ pcB (lnW t j) = true := by
    intro j hj
    have a := h2 ps[j] (List.getElem_mem _)
    have ten : ((10 ^ 6 : Nat) : Int) = 1000000 := by decide
    have hb := numB_itoaM ps[j].2 6 (by decide) (by omega) (by rw [ten]; omega)
    have hr := (hldT_free a.1 a.2.1).1
    unfold pcI pcB
    rw [wk j hj]
    simp only [List.getD_cons_zero, List.getD_cons_succ, hr, hb.1, hb.2]
    exact ⟨by simp, by simp⟩
  have ok : ∀ k, k < (linesL t).length → okI t k = true := by
    intro k hk
    rw [hn] at hk
    unfold okI
    rw [(pk k hk).2, (pk k hk).1, Bool.true_and]
    cases k with
    | zero => rfl
    | succ j =>
      rw [Nat.add_sub_cancel, (pk j (by omega)).1, decide_eq_true (ha j hk), Bool.or_true]
  have hs : stopL t (okI t) = none := stopL_none (fun k hk => by unfold badL; rw [L2, ok k hk]; rfl)
  have e : pcsI t (linesL t).length = ps := by
    rw [hn]
    apply List.ext_getElem (by rw [pcsI_len])
    intro j h4 h5
    rw [pcsI_at h5, (pk j h5).1]
  rw [readI_ok (by omega) hs (by rw [e]; exact h), e]
/-- What is read without an error is tidy and would be written so. -/
theorem input_text {t : List UInt8} (h : (readI t).2.2 = 0) : inFault (readI t).1 = 0 ∧ Adj (readI t).1 ∧ inT (readI t).1 (readI t).1.length = t ∧ t.length ≤ 200000 := by
  by_cases hb : 200000 < t.length
  · rw [readI_large hb] at h; cases h
  cases hs : stopL t (okI t) with
  | some i => rw [readI_stop hb hs] at h; cases h
  | none =>
    by_cases hf : inFault (pcsI t (linesL t).length) = 0
    · rw [readI_ok hb hs hf]
      have hall : ∀ k, k < (linesL t).length → badL t (okI t) k = false := by
        intro k hk
        unfold stopL at hs
        rw [List.find?_eq_none] at hs
        have := hs k (by simpa using hk)
        simpa using this
      have hgood : ∀ k, k < (linesL t).length → okI t k = true := by
        intro k hk
        have := hall k hk
        unfold badL at this
        rw [Bool.or_eq_false_iff] at this
        simpa using this.2
      have hend : endsB t = true := by
        by_cases h0 : (linesL t).length = 0
        · by_cases ht : t = []
          · subst ht; rfl
          · exact absurd (List.eq_nil_of_length_eq_zero h0) (linesL_ne ht)
        · have := hall ((linesL t).length - 1) (by omega)
          unfold badL at this
          rw [Bool.or_eq_false_iff, decide_eq_true (by omega), Bool.and_true] at this
          simpa using this.1
      refine ⟨hf, ?_, ?_, by omega⟩
      · intro i hi
        show ((pcsI t (linesL t).length)[i]'_).1 ≠ ((pcsI t (linesL t).length)[i + 1]'_).1
        have hi' : i + 1 < (linesL t).length := by
          have : i + 1 < (pcsI t (linesL t).length).length := hi
          rwa [pcsI_len] at this
        rw [pcsI_at (show i < (linesL t).length by omega), pcsI_at hi']
        have := hgood (i + 1) hi'
        unfold okI at this
        rw [Bool.and_eq_true, decide_eq_false (by omega), Bool.false_or, decide_eq_true_eq] at this
        exact this.2
      · show inT (pcsI t (linesL t).length) (pcsI t (linesL t).length).length = t
        have hT := inT_flat (pcsI t (linesL t).length) (pcsI t (linesL t).length).length (Nat.le_refl _)
        rw [List.take_length] at hT
        rw [hT]
        conv => rhs; rw [text_lines t hend]
        congr 1
        apply List.ext_getElem
        · simp only [List.length_map, pcsI_len]
        · intro k h1 h2
          rw [List.getElem_map, pcsI_at h2]
          have hg := hgood k h2
          have hw := lnW_at h2
          obtain ⟨x, ws, e1, e2⟩ := join_cut 32 (linesL t)[k]
          rw [e1] at hw
          unfold okI pcB at hg
          rw [Bool.and_eq_true, Bool.and_eq_true, Bool.and_eq_true, hw, decide_eq_true_eq, decide_eq_true_eq] at hg
          obtain ⟨⟨g1, g2, g3⟩, _⟩ := hg
          obtain ⟨y, rfl⟩ : ∃ y, ws = [y] := by
            cases ws with
            | nil => simp at g1
            | cons y r =>
              cases r with
              | nil => exact ⟨y, rfl⟩
              | cons z r => simp at g1
          unfold pcI pcLn
          rw [hw]
          simp only [List.getD_cons_zero, List.getD_cons_succ] at g2 g3 ⊢
          rw [g2, itoa_numV g3, e2]
    · rw [readI_bad hb hs hf] at h
      exact absurd h hf
end Go.Proofs.YtdidcjhgdofgcaaGreatDoor
/- What is held, as letters: the walks of input.heldText and the reference's heldLetters, and of input.readHeld. -/
namespace Go.Proofs.YtdidcjhgdofgcaaGreatDoor
set_option linter.unusedVariables false
set_option linter.unusedSimpArgs false
open Go.RowKit Go.Sort

theorem hldT_some {h : Int} {l : List UInt8} (e : hldP h 6 = l) (hl : l ≠ []) : hldT h = l := by unfold hldT; rw [e, if_neg hl]
theorem hldT_dash {h : Int} (e : hldP h 6 = []) : hldT h = [45] := by unfold hldT; rw [if_pos e]
theorem hldP_len (h : Int) : ∀ k, (hldP h k).length ≤ k
  | 0 => Nat.le_refl _
  | k + 1 => by
    have := hldP_len h k
    rw [hldP_next]
    split
    · rw [List.length_append, List.length_singleton]; omega
    · omega
theorem let_cut {k : Nat} (h : k < 6) : (⟨#[108, 114, 117, 100, 97, 98]⟩ : ByteArray).extract k (k + 1) = ⟨#[letL.getD k 0]⟩ := by
  have e : (⟨#[108, 114, 117, 100, 97, 98]⟩ : ByteArray) = ⟨letL.toArray⟩ := rfl
  have e2 : (⟨#[letL.getD k 0]⟩ : ByteArray) = ⟨([letL.getD k 0] : List UInt8).toArray⟩ := rfl
  rw [e, e2]
  refine ba_ext ?_
  rw [extr_toList]
  rcases (show k = 0 ∨ k = 1 ∨ k = 2 ∨ k = 3 ∨ k = 4 ∨ k = 5 by omega) with rfl | rfl | rfl | rfl | rfl | rfl <;> rfl
theorem let_asc : ∀ k : Fin 6, ((⟨#[108, 114, 117, 100, 97, 98]⟩ : ByteArray)[k.val]'(k.isLt)).toNat < 128 := by decide
theorem btns_at {k : Nat} (h : k < btns.length) : btns[k] = btns.getD k 0 := by rw [List.getD_eq_getElem?_getD, List.getElem?_eq_getElem h]; rfl
theorem idx_mem (s : List UInt8) (c : UInt8) : decide (0 ≤ Lib.indexByte s c) = decide (c ∈ s) := by
  rw [← Lib.contains_iff_indexByte]
  simp
theorem hasL_at (s : List UInt8) {k : Nat} (h : k < 6) : (hasL s).getD k false = decide (letL.getD k 0 ∈ s) := by
  rcases (show k = 0 ∨ k = 1 ∨ k = 2 ∨ k = 3 ∨ k = 4 ∨ k = 5 by omega) with rfl | rfl | rfl | rfl | rfl | rfl <;> rfl
/-- A held button's bit, by shifting. -/
theorem shr_all : ∀ h : Fin 64, ∀ k : Fin 6, (((h.val : Int) / 2 ^ k.val).tmod 2 == 1) = hasB (h.val : Int) (btns.getD k.val 0) := by decide +kernel
set_option maxHeartbeats 2000000 in
set_option maxRecDepth 100000 in
theorem heldText_any (h : Int) (w : World) : Calls Tryz.prog 48 #[.int .i64 h] w fun e w' => e = .returned (encStr (hldT h)) ∧ Below w.heap.size w w' := by
  go_enter Tryz.func48, Tryz.ntmps48
  go_wp2_with fail
  refine (buttons_any _).mono ?_
  rintro e w1 ⟨A, c, rfl, hr, hb⟩
  go_wp2_with fail
  go_loop [3, 8] (fun s i => ∃ k : Nat, k ≤ 6 ∧ s = encStr (hldP h k) ∧ i = .int .i64 k) (fun _ i => 6 - (intOf i).toNat)
  case atStart => exact ⟨0, Nat.zero_le _, rfl, rfl⟩
  case round =>
    obtain ⟨k, hk, rfl, rfl⟩ := hrel
    by_cases hlt : k < 6
    · obtain ⟨b, off, rfl, _, hbs, c0⟩ := hr.int_at (show k < btns.length from hlt)
      have hk6 : k < btns.length := hlt
      have hN := Lib.hid (hldP_next h k)
      have hpl := hldP_len h k
      have hcut := let_cut hlt
      rw [btns_at hk6] at c0
      clear hk6
      generalize btns.getD k 0 = x at *
      generalize letL.getD k 0 = y at *
      generalize hldP h k = p at *
      cases hh : hasB h x with
      | true =>
        have g1 : (bits .and .i64 h x != 0) = true := hh
        have HH := Lib.hid hh
        clear hh
        go_wp2_with fail
        go_round
        case rel => exact ⟨k + 1, by omega, by rw [hN.out, if_pos HH.out]; exact congrArg Value.string (ba_app p [y]), by go_num⟩
        case measure => simp [intOf]; omega
      | false =>
        have g1 : (bits .and .i64 h x != 0) = false := hh
        have HH := Lib.hid hh
        clear hh
        go_wp2_with fail
        go_round
        case rel => exact ⟨k + 1, by omega, by rw [hN.out, HH.out]; rfl, by go_num⟩
        case measure => simp [intOf]; omega
    · have hkk : k = 6 := by omega
      subst hkk
      cases hp : hldP h 6 with
      | nil =>
        have HD := Lib.hid (hldT_dash hp)
        clear hp
        go_wp2_with fail
        go_ret
        exact ⟨by rw [HD.out]; rfl, hb⟩
      | cons y l =>
        have HD := Lib.hid (hldT_some hp (by simp))
        clear hp
        go_wp2_with fail
        go_ret
        exact ⟨by rw [HD.out]; rfl, hb⟩
set_option maxHeartbeats 2000000 in
set_option maxRecDepth 100000 in
theorem heldLetters_any (n : Nat) (hn : n < 64) (w : World) : Calls Tryz.prog 53 #[.int .i64 n] w fun e w' => e = .returned (encStr (hldT n)) ∧ Below w.heap.size w w' := by
  have HB : Hid (∀ k : Nat, k < 6 → (((n : Int) / 2 ^ k).tmod 2 == 1) = hasB (n : Int) (btns.getD k 0)) := Lib.hid (fun k hk => shr_all ⟨n, hn⟩ ⟨k, hk⟩)
  go_enter Tryz.func53, Tryz.ntmps53
  go_wp2_with fail
  go_loopw [3] (fun s wr => ∃ k : Nat, k ≤ 6 ∧ s = encStr (hldP n k) ∧ wr = w.iter ⟨#[108, 114, 117, 100, 97, 98]⟩ k) (fun _ wr => 6 - wr.iterPos w.heap.size)
  case atStart => exact ⟨0, Nat.zero_le _, rfl, rfl⟩
  case round =>
    obtain ⟨k, hk, rfl, rfl⟩ := hrel
    by_cases hlt : k < 6
    · have hp : k < (⟨#[108, 114, 117, 100, 97, 98]⟩ : ByteArray).size := hlt
      have ha : ((⟨#[108, 114, 117, 100, 97, 98]⟩ : ByteArray)[k]'hp).toNat < 128 := let_asc ⟨k, hlt⟩
      have hnx : ∀ ty, (Instr.next (.pointer (some ⟨w.heap.size, 0, none⟩)) true ty).run Tryz.prog (w.iter ⟨#[108, 114, 117, 100, 97, 98]⟩ k) = _ := fun ty => run_next_ascii w _ k ty hp ha
      have hN := Lib.hid (hldP_next n k)
      have hpl := hldP_len n k
      have hcut := let_cut hlt
      have hs := HB.out k hlt
      generalize ((⟨#[108, 114, 117, 100, 97, 98]⟩ : ByteArray)[k]'hp).toNat = cc at *
      generalize btns.getD k 0 = x at *
      generalize letL.getD k 0 = y at *
      generalize hldP n k = p at *
      clear ha hp
      cases hh : hasB (n : Int) x with
      | true =>
        rw [hh] at hs
        have HH := Lib.hid hh
        clear hh
        go_wp2_with fail
        go_roundw
        case rel => exact ⟨k + 1, by omega, by rw [hN.out, if_pos HH.out]; exact congrArg Value.string (ba_app p [y]), rfl⟩
        case measure => rw [World.iterPos_iter, World.iterPos_iter]; omega
      | false =>
        rw [hh] at hs
        have HH := Lib.hid hh
        clear hh
        go_wp2_with fail
        go_roundw
        case rel => exact ⟨k + 1, by omega, by rw [hN.out, HH.out]; rfl, rfl⟩
        case measure => rw [World.iterPos_iter, World.iterPos_iter]; omega
    · have hkk : k = 6 := by omega
      subst hkk
      have hnx : ∀ ty, (Instr.next (.pointer (some ⟨w.heap.size, 0, none⟩)) true ty).run Tryz.prog (w.iter ⟨#[108, 114, 117, 100, 97, 98]⟩ 6) = _ := fun ty => run_next_end w _ 6 ty (by decide)
      cases hp : hldP n 6 with
      | nil =>
        have HD := Lib.hid (hldT_dash hp)
        clear hp
        go_wp2_with fail
        go_ret
        exact ⟨by rw [HD.out]; rfl, (Below.refl _ _).alloc (Nat.le_refl _) _⟩
      | cons y l =>
        have HD := Lib.hid (hldT_some hp (by simp))
        clear hp
        go_wp2_with fail
        go_ret
        exact ⟨by rw [HD.out]; rfl, (Below.refl _ _).alloc (Nat.le_refl _) _⟩
/-- A word as what is held, and whether it is how that is written. -/
def heldB (s : List UInt8) : Bool := decide (hldT (hldR s) = s)
theorem heldB_beq (s : List UInt8) : (hldT (hldR s) == s) = heldB s := by unfold heldB; by_cases h : hldT (hldR s) = s <;> simp [h]
set_option maxHeartbeats 2000000 in
set_option maxRecDepth 100000 in
theorem readHeld_any (s : List UInt8) (w : World) : Calls Tryz.prog 58 #[encStr s] w fun e w' => e = .returned (.tuple #[.int .i64 (hldR s), .bool (heldB s)]) ∧ Below w.heap.size w w' := by
  go_enter Tryz.func58, Tryz.ntmps58
  go_wp2_with fail
  refine (buttons_any _).mono ?_
  rintro e w1 ⟨A, c, rfl, hr, hb⟩
  go_wp2_with fail
  go_loop [4, 9] (fun v i => ∃ k : Nat, k ≤ 6 ∧ v = .int .i64 (orN (hasL s) k) ∧ i = .int .i64 k) (fun _ i => 6 - (intOf i).toNat)
  case atStart => exact ⟨0, Nat.zero_le _, rfl, rfl⟩
  case round =>
    obtain ⟨k, hk, rfl, rfl⟩ := hrel
    by_cases hlt : k < 6
    · obtain ⟨b, off, rfl, _, hbs, c0⟩ := hr.int_at (show k < btns.length from hlt)
      have hk6 : k < btns.length := hlt
      have hN := Lib.hid (orN_next (hasL s) k)
      have hA := Lib.hid (hasL_at s hlt)
      have hcut := let_cut hlt
      rw [btns_at hk6] at c0
      clear hk6
      generalize btns.getD k 0 = x at *
      generalize letL.getD k 0 = y at *
      generalize orN (hasL s) k = p at *
      go_wp2_with fail
      refine (Tryz.strings_Contains_one ⟨s.toArray⟩ y _).mono ?_
      rintro e w' ⟨rfl, rfl⟩
      have ei : decide (0 ≤ Lib.indexByte (⟨s.toArray⟩ : ByteArray).data.toList y) = decide (y ∈ s) := idx_mem s y
      rw [ei, ← hA.out]
      clear ei
      cases hh : (hasL s).getD k false with
      | true =>
        have HH := Lib.hid hh
        clear hh
        go_wp2_with fail
        go_round
        case rel => exact ⟨k + 1, by omega, by rw [hN.out, if_pos HH.out], by go_num⟩
        case measure => simp [intOf]; omega
      | false =>
        have HH := Lib.hid hh
        clear hh
        go_wp2_with fail
        go_round
        case rel => exact ⟨k + 1, by omega, by rw [hN.out, HH.out]; rfl, by go_num⟩
        case measure => simp [intOf]; omega
    · have hkk : k = 6 := by omega
      subst hkk
      have HR : Hid (orN (hasL s) 6 = hldR s) := Lib.hid rfl
      rw [HR.out]
      go_wp2_with fail
      refine (heldText_any _ _).mono ?_
      rintro e w2 ⟨rfl, hb2⟩
      go_wp2_with fail
      rw [heldB_beq]
      go_returns
      exact ⟨rfl, below_up hb hb2⟩
end Go.Proofs.YtdidcjhgdofgcaaGreatDoor
