/- Texts of this seat, laid together: SgI MgP. -/
import Derived.Handy
import Derived.Test.YtggnccafmadacaaGreatDoorBu22
import Derived.Test.YtggnccafmadacaaGreatDoorBu21
/- The walk of Best at a right history; plain: the best and the sum of one attempt. -/
namespace Go.Proofs.YtggnccafmadacaaGreatDoor
set_option linter.unusedVariables false
set_option linter.unusedSimpArgs false
open Go.RowKit

def bT (n : Nat) (atts : List Att) : Int := if bI n atts atts.length < 0 then 0 else lastT (atts.getD (bI n atts atts.length).toNat (0, []))
def bN (n : Nat) (atts : List Att) : Int := if bI n atts atts.length < 0 then 0 else (atts.getD (bI n atts atts.length).toNat (0, [])).1
theorem bT_none {n : Nat} {atts : List Att} (h : bI n atts atts.length = -1) : bT n atts = 0 ∧ bN n atts = 0 ∧ decide (0 ≤ bI n atts atts.length) = false := by simp [bT, bN, h]
theorem bT_at {n : Nat} {atts : List Att} {j : Nat} (h : bI n atts atts.length = j) (hj : j < atts.length) (hn : atts[j].2.length = n) (h1 : n - 1 < n) : bT n atts = atts[j].2[n - 1]'(by omega) ∧ bN n atts = atts[j].1 ∧ decide (0 ≤ bI n atts atts.length) = true := by
  have hneg : ¬ ((j : Int) < 0) := by omega
  have e : atts.getD j (0, []) = atts[j] := by rw [List.getD_eq_getElem?_getD, List.getElem?_eq_getElem hj]; rfl
  refine ⟨?_, ?_, by rw [h]; simp⟩
  · unfold bT; rw [h, if_neg hneg, Int.toNat_natCast, e]; unfold lastT; simp only [List.getD_eq_getElem?_getD]; simp only [hn]; rw [List.getElem?_eq_getElem (by omega)]; rfl
  · unfold bN; rw [h, if_neg hneg, Int.toNat_natCast, e]
/-! ### one attempt, all of whose splits are known -/
def pv (l : List Int) (k : Nat) : Int := if k = 0 then 0 else l.getD (k - 1) 0
def chS (l : List Int) (i : Nat) : Stp := ((i : Int), (i : Int) + 1, l.getD i 0 - pv l i)
theorem stS_chain {l : List Int} (h : ∀ x ∈ l, x ≠ 0) : ∀ k, k ≤ l.length → stS l k = ((k : Int), pv l k, (List.range k).map (chS l)) := by
  intro k
  induction k with
  | zero => intro _; rfl
  | succ k ih =>
    intro hk
    have hlt : k < l.length := by omega
    have e : l.getD k 0 = l[k] := by rw [List.getD_eq_getElem?_getD, List.getElem?_eq_getElem hlt]; rfl
    rw [stS_yes l k hlt (h _ (List.getElem_mem _)), ih (by omega), List.range_succ, List.map_append]
    simp only [chS, pv, Nat.add_sub_cancel, List.map_cons, List.map_nil, e]
    simp
theorem cands_chain (V : Nat → Int) (l : List Int) (i : Nat) (hV : 0 ≤ V (i + 1)) : ∀ k, cands V ((List.range k).map (chS l)) i = if i < k then [l.getD i 0 - pv l i + V (i + 1)] else [] := by
  intro k
  induction k with
  | zero => rfl
  | succ k ih =>
    rw [List.range_succ, List.map_append, List.map_cons, List.map_nil, cands_snoc, ih]
    by_cases hik : i = k
    · subst hik
      have e : ((i : Int) + 1).toNat = i + 1 := by omega
      have : 0 ≤ V ((chS l i).2.1).toNat := by simp only [chS, e]; exact hV
      rw [if_neg (Nat.lt_irrefl _), if_pos (Nat.lt_succ_self _), if_pos ⟨rfl, this⟩]
      simp only [chS, e, List.nil_append]
    · have h1 : ¬ ((chS l k).1 = (i : Int) ∧ 0 ≤ V (chS l k).2.1.toNat) := fun h => hik (by have := h.1; simp only [chS] at this; omega)
      rw [if_neg h1, List.append_nil]
      by_cases h2 : i < k
      · rw [if_pos h2, if_pos (by omega)]
      · rw [if_neg h2, if_neg (by omega)]
theorem foldl_max_ge (l : List Int) : ∀ (a : Int), a ≤ l.foldl max a ∧ ∀ x ∈ l, x ≤ l.foldl max a := by
  induction l with
  | nil => intro a; exact ⟨Int.le_refl _, fun x hx => by cases hx⟩
  | cons y l ih =>
    intro a
    have := ih (max a y)
    refine ⟨by simp only [List.foldl_cons]; omega, fun x hx => ?_⟩
    rcases List.mem_cons.1 hx with rfl | hx
    · simp only [List.foldl_cons]; omega
    · exact this.2 x hx
theorem spl_last {n : Nat} {l : List Int} (hok : SplOk n l) (h : ∀ x ∈ l, x ≠ 0) (i : Nat) (hi : i < l.length) : l[i] ≤ l[l.length - 1]'(by omega) := by
  rcases Nat.lt_or_ge i (l.length - 1) with h1 | h1
  · have := hok.up (l.length - 1) (by omega) (h _ (List.getElem_mem _))
    have h2 := (foldl_max_ge (l.take (l.length - 1)) 0).2 l[i] (by rw [List.mem_take_iff_getElem]; exact ⟨i, by omega, rfl⟩)
    unfold sgM at this
    omega
  · have : i = l.length - 1 := by omega
    subst this; exact Int.le_refl _
theorem lv_chain {n : Nat} {l : List Int} (hok : SplOk n l) (hn : l.length = n) (h : ∀ x ∈ l, x ≠ 0) (h1 : 1 ≤ n) (hf : Fwd ((List.range n).map (chS l)) n) : ∀ d i, i + d = n → lvV ((List.range n).map (chS l)) n i = l.getD (n - 1) 0 - pv l i := by
  have eL : l.getD (n - 1) 0 = l[n - 1]'(by omega) := by rw [List.getD_eq_getElem?_getD, List.getElem?_eq_getElem (by omega)]; rfl
  intro d
  induction d with
  | zero =>
    intro i hi
    have : i = n := by omega
    subst this
    rw [lvV_end, pv, if_neg (by omega)]; omega
  | succ d ih =>
    intro i hi
    have e2 := ih (i + 1) (by omega)
    have e3 : pv l (i + 1) = l.getD i 0 := by simp [pv]
    have eI : l.getD i 0 = l[i]'(by omega) := by rw [List.getD_eq_getElem?_getD, List.getElem?_eq_getElem (by omega)]; rfl
    have hle := spl_last hok h i (by omega)
    have eL2 : l[l.length - 1]'(by omega) = l[n - 1]'(by omega) := by congr 1; omega
    rw [eL2] at hle
    rw [lvV_eq hf i (by omega), cands_chain _ l i (by rw [e2, e3, eL, eI]; omega) n, if_pos (by omega), e2, e3]
    have : ∀ c : Int, leastOf [c] = c := fun c => by simp [leastOf]
    rw [this]; omega
theorem sum_one {segs : List (List UInt8)} {no : Int} {l : List Int} (hok : HistOk segs [(no, l)]) (hn : l.length = segs.length) (h : ∀ x ∈ l, x ≠ 0) : sumV segs [(no, l)] = l.getD (segs.length - 1) 0 := by
  have hs : SplOk segs.length l := hok.spl 0 (by simp)
  have e : stepsA [(no, l)] = (List.range segs.length).map (chS l) := by
    have : stepsA [(no, l)] = stepsOf l := by simp [stepsA]
    rw [this, stepsOf, stS_chain h l.length (Nat.le_refl _), hn]
  have hf := (stepsA_fwd hok).1
  unfold sumV
  rw [e] at hf ⊢
  rw [lv_chain hs hn h hok.n1 hf segs.length 0 (by omega)]
  simp [pv]
theorem best_one {n : Nat} {no : Int} {l : List Int} (hn : l.length = n) : bI n [(no, l)] 1 = 0 := by simp [bI, hn]
end Go.Proofs.YtggnccafmadacaaGreatDoor
/- Plain laws of merged histories, and of histories without a segment; no program in sight. -/
namespace Go.Proofs.YtggnccafmadacaaGreatDoor
set_option linter.unusedVariables false
set_option linter.unusedSimpArgs false
open Go.RowKit

/-! ### merged -/
def noIn (a : List Att) (no : Int) : Bool := a.any (fun x => x.1 == no)
theorem noIn_yes {a : List Att} {no : Int} (h : ∃ j, ∃ hj : j < a.length, a[j].1 = no) : noIn a no = true := by
  obtain ⟨j, hj, e⟩ := h
  exact List.any_eq_true.2 ⟨a[j], List.getElem_mem _, by simpa using e⟩
theorem noIn_no {a : List Att} {no : Int} (h : ∀ j (hj : j < a.length), a[j].1 ≠ no) : noIn a no = false := by
  rw [noIn, List.any_eq_false]
  intro x hx
  obtain ⟨j, hj, rfl⟩ := List.mem_iff_getElem.1 hx
  simpa using h j hj
def mgN (a b : List Att) : List Att := b.filter (fun x => !noIn a x.1)
theorem mgN_new {a b : List Att} {i : Nat} (hi : i < b.length) (h : ∀ j (hj : j < a.length), a[j].1 ≠ b[i].1) : mgN a (b.take (i + 1)) = mgN a (b.take i) ++ [b[i]] := by
  unfold mgN
  rw [List.take_succ_eq_append_getElem hi, List.filter_append]
  simp [noIn_no h]
theorem mgN_old {a b : List Att} {i : Nat} (hi : i < b.length) (h : ∃ j, ∃ hj : j < a.length, a[j].1 = b[i].1) : mgN a (b.take (i + 1)) = mgN a (b.take i) := by
  unfold mgN
  rw [List.take_succ_eq_append_getElem hi, List.filter_append]
  simp [noIn_yes h]
theorem mgN_len (a b : List Att) (i : Nat) : (mgN a (b.take i)).length ≤ b.length := Nat.le_trans (List.length_filter_le _ _) (by simp; omega)
theorem mgN_take_len (a b : List Att) (i : Nat) : (a ++ mgN a (b.take i)).length ≤ (a ++ mgN a b).length := by
  rw [List.length_append, List.length_append]
  have : (mgN a (b.take i)).length ≤ (mgN a b).length := by
    unfold mgN
    exact ((List.take_sublist i b).filter _).length_le
  omega
theorem up_lt {l : List Att} (h : ∀ i (h : i + 1 < l.length), l[i].1 < l[i + 1].1) : l.Pairwise (fun x y => x.1 < y.1) := by
  rw [List.pairwise_iff_getElem]
  intro i j hi hj hij
  induction j with
  | zero => omega
  | succ j ih =>
    have h1 := h j hj
    rcases Nat.lt_or_ge i j with h2 | h2
    · have := ih (by omega) h2; omega
    · have : i = j := by omega
      subst this; exact h1
theorem lt_inj {l : List Att} (h : l.Pairwise (fun x y => x.1 < y.1)) {x y : Att} (hx : x ∈ l) (hy : y ∈ l) (e : x.1 = y.1) : x = y := by
  obtain ⟨i, hi, rfl⟩ := List.mem_iff_getElem.1 hx
  obtain ⟨j, hj, rfl⟩ := List.mem_iff_getElem.1 hy
  rw [List.pairwise_iff_getElem] at h
  rcases Nat.lt_trichotomy i j with h1 | h1 | h1
  · have := h i j hi hj h1; omega
  · subst h1; rfl
  · have := h j i hj hi h1; omega
theorem sorted_one {l m : List Att} (hp : l.Perm m) (hl : l.Pairwise (fun x y => x.1 ≤ y.1)) (hm : m.Pairwise (fun x y => x.1 < y.1)) : l = m :=
  List.Perm.eq_of_pairwise (fun x y hx hy h1 h2 => lt_inj hm (hp.mem_iff.1 hx) hy (by omega)) hl (hm.imp (fun {x y} h => by omega)) hp
theorem lt_nodup {l : List Att} (h : l.Pairwise (fun x y => x.1 < y.1)) : l.Nodup := h.imp (fun {x y} hxy e => by rw [e] at hxy; omega)
/-- Two parts of one list that hold all of it together, merged. -/
theorem parts_perm {l a b : List Att} (hl : l.Pairwise (fun x y => x.1 < y.1)) (ha : a.Sublist l) (hb : b.Sublist l) (hab : ∀ x ∈ l, x ∈ a ∨ x ∈ b) : (a ++ mgN a b).Perm l := by
  have na := ha.nodup (lt_nodup hl)
  have nb := hb.nodup (lt_nodup hl)
  refine (List.perm_ext_iff_of_nodup ?_ (lt_nodup hl)).2 fun x => ?_
  · rw [List.nodup_append]
    refine ⟨na, nb.filter _, fun x hx y hy e => ?_⟩
    subst e
    have h2 := (List.mem_filter.1 hy).2
    have h3 : noIn a x.1 = true := List.any_eq_true.2 ⟨x, hx, by simp⟩
    rw [h3] at h2
    cases h2
  · rw [List.mem_append]
    constructor
    · rintro (h | h)
      · exact ha.subset h
      · exact hb.subset (List.mem_filter.1 h).1
    · intro h
      rcases hab x h with h1 | h1
      · exact .inl h1
      · by_cases h2 : noIn a x.1 = true
        · obtain ⟨y, hy, e⟩ := List.any_eq_true.1 h2
          have e' : y.1 = x.1 := by simpa using e
          have := lt_inj hl (ha.subset hy) h e'
          subst this
          exact .inl hy
        · exact .inr (List.mem_filter.2 ⟨h1, by simpa using h2⟩)
theorem merge_parts {l a b m : List Att} (hl : l.Pairwise (fun x y => x.1 < y.1)) (ha : a.Sublist l) (hb : b.Sublist l) (hab : ∀ x ∈ l, x ∈ a ∨ x ∈ b) (hp : m.Perm (a ++ mgN a b)) (hm : m.Pairwise (fun x y => x.1 ≤ y.1)) : m = l :=
  sorted_one (hp.trans (parts_perm hl ha hb hab)) hm hl
theorem parts_no {l a b : List Att} (hl : l.Pairwise (fun x y => x.1 < y.1)) (ha : a.Sublist l) (hb : b.Sublist l) : ∀ x ∈ b, ∀ y ∈ a, y.1 = x.1 → y.2 = x.2 := fun x hx y hy e => by rw [lt_inj hl (ha.subset hy) (hb.subset hx) e]
theorem ok_part {segs : List (List UInt8)} {l a : List Att} (h : HistOk segs l) (ha : a.Sublist l) : HistOk segs a := by
  have hp := (up_lt h.up).sublist ha
  refine ⟨h.n1, h.n2, h.key, h.new, Nat.le_trans ha.length_le h.m, fun i hi => ?_, fun i hi => ?_, fun i hi => ?_⟩
  · obtain ⟨j, hj, e⟩ := List.mem_iff_getElem.1 (ha.subset (List.getElem_mem hi))
    have := h.no j hj
    rw [e] at this; exact this
  · exact (List.pairwise_iff_getElem.1 hp) i (i + 1) (by omega) hi (by omega)
  · obtain ⟨j, hj, e⟩ := List.mem_iff_getElem.1 (ha.subset (List.getElem_mem hi))
    have := h.spl j hj
    rw [e] at this; exact this

/-! ### without a segment -/
/-- How many are left without the noughts at the end of the first m. -/
def stripN (l : List Int) : Nat → Nat
  | 0 => 0
  | m + 1 => if l.getD m 0 = 0 then stripN l m else m + 1
theorem stripN_le (l : List Int) : ∀ m, stripN l m ≤ m
  | 0 => Nat.le_refl _
  | m + 1 => by
    unfold stripN
    split
    · exact Nat.le_succ_of_le (stripN_le l m)
    · exact Nat.le_refl _
theorem stripN_zero {l : List Int} {m : Nat} (hm : 0 < m) (h : l.getD (m - 1) 0 = 0) : stripN l m = stripN l (m - 1) := by
  obtain ⟨k, rfl⟩ : ∃ k, m = k + 1 := ⟨m - 1, by omega⟩
  simp only [stripN, Nat.add_sub_cancel] at *
  rw [if_pos h]
theorem stripN_stop {l : List Int} {m : Nat} (hm : 0 < m) (h : l.getD (m - 1) 0 ≠ 0) : stripN l m = m := by
  obtain ⟨k, rfl⟩ : ∃ k, m = k + 1 := ⟨m - 1, by omega⟩
  simp only [stripN, Nat.add_sub_cancel] at *
  rw [if_neg h]
theorem stripN_last (l : List Int) : ∀ m, 0 < stripN l m → l.getD (stripN l m - 1) 0 ≠ 0
  | 0, h => absurd h (Nat.lt_irrefl _)
  | m + 1, h => by
    unfold stripN at h ⊢
    by_cases e : l.getD m 0 = 0
    · rw [if_pos e] at h ⊢; exact stripN_last l m h
    · rw [if_neg e]; simpa using e
def strip (l : List Int) : List Int := l.take (stripN l l.length)
theorem strip_len (l : List Int) : (strip l).length = stripN l l.length := by
  have := stripN_le l l.length
  simp [strip]; omega
def joinA (k : Nat) (x : Att) : Option Att := if k < x.2.length then (if stripN (x.2.eraseIdx k) (x.2.eraseIdx k).length = 0 then none else some (x.1, strip (x.2.eraseIdx k))) else some x
def joinL (k : Nat) (l : List Att) : List Att := l.filterMap (joinA k)
theorem joinL_none {k i : Nat} {l : List Att} (hi : i < l.length) (h : joinA k l[i] = none) : joinL k (l.take (i + 1)) = joinL k (l.take i) := by
  unfold joinL
  rw [List.take_succ_eq_append_getElem hi, List.filterMap_append]
  simp [h]
theorem joinL_some {k i : Nat} {l : List Att} (hi : i < l.length) {y : Att} (h : joinA k l[i] = some y) : joinL k (l.take (i + 1)) = joinL k (l.take i) ++ [y] := by
  unfold joinL
  rw [List.take_succ_eq_append_getElem hi, List.filterMap_append]
  simp [h]
theorem joinL_len (k : Nat) (l : List Att) (i : Nat) : (joinL k (l.take i)).length ≤ l.length := Nat.le_trans (List.length_filterMap_le _ _) (by simp; omega)
theorem sgl_sub {a b : List Int} (h : a.Sublist b) : ∀ {last last' : Int}, last' ≤ last → sgl last b = 0 → sgl last' a = 0 := by
  induction h with
  | slnil => intro _ _ _ _; rfl
  | cons x _ ih =>
    intro last last' hl hb
    unfold sgl at hb
    split at hb
    · cases hb
    · split at hb
      · cases hb
      · exact ih (by omega) hb
  | cons_cons x _ ih =>
    intro last last' hl hb
    unfold sgl at hb ⊢
    split at hb
    · cases hb
    · rename_i h1
      rw [if_neg h1]
      split at hb
      · cases hb
      · rename_i h2
        rw [if_neg (fun h3 => h2 ⟨h3.1, by omega⟩)]
        exact ih (by omega) hb
theorem spl_sgl {n : Nat} {l : List Int} (h : SplOk n l) : sgl 0 l = 0 := by
  have h1 := splF_zero h
  unfold splF at h1
  split at h1
  · cases h1
  · split at h1
    · exact absurd h1 ‹_›
    · rename_i h2
      exact Decidable.not_not.1 h2
theorem spl_of {n : Nat} {l : List Int} (h1 : l.length ≤ n) (h2 : sgl 0 l = 0) (h3 : l.getLast? ≠ some 0) : SplOk n l := by
  refine splF_ok ?_
  unfold splF
  rw [if_neg (by omega), if_neg (by simpa using h2), if_neg h3]
theorem strip_last (l : List Int) : (strip l).getLast? ≠ some 0 := by
  rw [List.getLast?_eq_getElem?, strip_len]
  intro h
  by_cases h0 : stripN l l.length = 0
  · have : strip l = [] := List.eq_nil_of_length_eq_zero (by rw [strip_len]; exact h0)
    rw [this] at h; simp at h
  · have h1 := stripN_last l l.length (by omega)
    have h2 := stripN_le l l.length
    unfold strip at h
    rw [List.getElem?_take_of_lt (by omega)] at h
    exact h1 (by rw [List.getD_eq_getElem?_getD, h]; rfl)
theorem spl_join {n k : Nat} {l : List Int} (h : SplOk n l) (hk : k < l.length) : SplOk (n - 1) (strip (l.eraseIdx k)) := by
  refine spl_of ?_ ?_ (strip_last _)
  · have h1 := stripN_le (l.eraseIdx k) (l.eraseIdx k).length
    have h2 := h.len
    rw [strip_len]
    rw [List.length_eraseIdx, if_pos hk] at h1 ⊢
    omega
  · exact sgl_sub ((List.take_sublist _ _).trans (List.eraseIdx_sublist l k)) (Int.le_refl 0) (spl_sgl h)
theorem spl_keep {n k : Nat} {l : List Int} (h : SplOk n l) (hk : ¬ k < l.length) (hn : k + 1 < n) : SplOk (n - 1) l := ⟨by omega, h.bd, h.up, h.fin⟩
theorem joinA_ok {n k : Nat} {x y : Att} (hn : k + 1 < n) (h : SplOk n x.2) (hy : joinA k x = some y) : y.1 = x.1 ∧ SplOk (n - 1) y.2 := by
  unfold joinA at hy
  split at hy
  · split at hy
    · cases hy
    · injection hy with hy; subst hy; exact ⟨rfl, spl_join h ‹_›⟩
  · injection hy with hy; subst hy; exact ⟨rfl, spl_keep h ‹_› hn⟩
theorem new_nodup {ss : List (List UInt8)} (h : ∀ i (h : i < ss.length), ss[i] ∉ ss.take i) : ss.Nodup := by
  rw [List.Nodup, List.pairwise_iff_getElem]
  intro i j hi hj hij e
  exact h j hj (by rw [← e, List.mem_take_iff_getElem]; exact ⟨i, by omega, rfl⟩)
theorem nodup_new {ss : List (List UInt8)} (h : ss.Nodup) : ∀ i (h : i < ss.length), ss[i] ∉ ss.take i := by
  intro j hj hm
  obtain ⟨i, hi, e⟩ := List.mem_take_iff_getElem.1 hm
  rw [List.Nodup, List.pairwise_iff_getElem] at h
  exact h i j (by omega) hj (by omega) e
theorem ok_join {segs : List (List UInt8)} {l : List Att} {k : Nat} (h : HistOk segs l) (hk : k + 1 < segs.length) : HistOk (segs.eraseIdx k) (joinL k l) := by
  have e : (segs.eraseIdx k).length = segs.length - 1 := by rw [List.length_eraseIdx, if_pos (by omega)]
  have n2 := h.n2
  have hmem : ∀ y ∈ joinL k l, ∃ x ∈ l, joinA k x = some y := fun y hy => List.mem_filterMap.1 hy
  have hup := up_lt h.up
  have hup2 : (joinL k l).Pairwise (fun x y => x.1 < y.1) := by
    unfold joinL
    rw [List.pairwise_filterMap]
    refine (List.pairwise_iff_forall_sublist.2 fun {a b} hab => ?_)
    intro y hy z hz
    have hs : ∀ x ∈ l, SplOk segs.length x.2 := fun x hx => by
      obtain ⟨i, hi, rfl⟩ := List.mem_iff_getElem.1 hx
      exact h.spl i hi
    have h1 := (joinA_ok hk (hs a (hab.subset (by simp))) hy).1
    have h2 := (joinA_ok hk (hs b (hab.subset (by simp))) hz).1
    have h3 := List.pairwise_iff_forall_sublist.1 hup hab
    omega
  refine ⟨by omega, by omega, fun i hi => ?_, nodup_new ((new_nodup h.new).eraseIdx k), Nat.le_trans (List.length_filterMap_le _ _) h.m, fun i hi => ?_, fun i hi => ?_, fun i hi => ?_⟩
  · obtain ⟨j, hj, ej⟩ := List.mem_iff_getElem.1 ((List.eraseIdx_sublist segs k).subset (List.getElem_mem hi))
    have := h.key j hj
    rw [ej] at this; exact this
  · obtain ⟨x, hx, hy⟩ := hmem _ (List.getElem_mem hi)
    obtain ⟨j, hj, rfl⟩ := List.mem_iff_getElem.1 hx
    rw [(joinA_ok hk (h.spl j hj) hy).1]
    exact h.no j hj
  · exact (List.pairwise_iff_getElem.1 hup2) i (i + 1) (by omega) hi (by omega)
  · obtain ⟨x, hx, hy⟩ := hmem _ (List.getElem_mem hi)
    obtain ⟨j, hj, rfl⟩ := List.mem_iff_getElem.1 hx
    rw [e]
    exact (joinA_ok hk (h.spl j hj) hy).2
/-! ### the best attempt without the first segment -/
theorem bI_min (n : Nat) (atts : List Att) : ∀ k, k ≤ atts.length → bI n atts k = -1 ∧ (∀ i (h : i < atts.length), i < k → atts[i].2.length ≠ n) ∨ ∃ j : Nat, ∃ hj : j < atts.length, j < k ∧ bI n atts k = j ∧ atts[j].2.length = n ∧ ∀ i (h : i < atts.length), i < k → atts[i].2.length = n → lastT atts[j] ≤ lastT atts[i] := by
  intro k
  induction k with
  | zero => intro _; exact .inl ⟨rfl, fun i _ h => absurd h (Nat.not_lt_zero _)⟩
  | succ k ih =>
    intro hk
    have hlt : k < atts.length := by omega
    have hcase : ∀ i, i < k + 1 → i < k ∨ i = k := fun i h => by omega
    rcases ih (by omega) with ⟨h0, hno⟩ | ⟨j, hj, hjk, hb, hn, hmin⟩
    · by_cases hf : atts[k].2.length = n
      · refine .inr ⟨k, hlt, by omega, by rw [bI_new hlt hf (by omega)], hf, fun i hi hik hl => ?_⟩
        rcases hcase i hik with h | h
        · exact absurd hl (hno i hi h)
        · subst h; exact Int.le_refl _
      · refine .inl ⟨by rw [bI_no hlt hf, h0], fun i hi hik => ?_⟩
        rcases hcase i hik with h | h
        · exact hno i hi h
        · subst h; exact hf
    · have eg : atts.getD j (0, []) = atts[j] := by rw [List.getD_eq_getElem?_getD, List.getElem?_eq_getElem hj]; rfl
      by_cases hf : atts[k].2.length = n
      · by_cases hc : lastT atts[k] < lastT atts[j]
        · refine .inr ⟨k, hlt, by omega, ?_, hf, fun i hi hik hl => ?_⟩
          · simp only [bI, hlt, hf, hb, Int.toNat_natCast, eg, hc, or_true, and_self, if_true, dite_true]
          · rcases hcase i hik with h | h
            · have := hmin i hi h hl; omega
            · subst h; exact Int.le_refl _
        · refine .inr ⟨j, hj, by omega, ?_, hn, fun i hi hik hl => ?_⟩
          · have hneg : ¬ (j : Int) < 0 := by omega
            simp only [bI, hlt, hf, hb, Int.toNat_natCast, eg, hc, hneg, or_self, and_false, if_false, dite_true]
          · rcases hcase i hik with h | h
            · exact hmin i hi h hl
            · subst h; omega
      · refine .inr ⟨j, hj, by omega, by rw [bI_no hlt hf, hb], hn, fun i hi hik hl => ?_⟩
        rcases hcase i hik with h | h
        · exact hmin i hi h hl
        · subst h; exact absurd hl hf
theorem best_same {n m : Nat} {us bs : List Att} (h1 : ∀ x ∈ us, x.2.length = n → ∃ y ∈ bs, y.2.length = m ∧ lastT y = lastT x) (h2 : ∀ y ∈ bs, y.2.length = m → ∃ x ∈ us, x.2.length = n ∧ lastT x = lastT y) :
    bT n us = bT m bs ∧ decide (0 ≤ bI n us us.length) = decide (0 ≤ bI m bs bs.length) := by
  rcases bI_min n us us.length (Nat.le_refl _) with ⟨a0, ano⟩ | ⟨j, hj, _, aj, an, amin⟩
  · rcases bI_min m bs bs.length (Nat.le_refl _) with ⟨b0, bno⟩ | ⟨i, hi, _, bi, bn, bmin⟩
    · exact ⟨by rw [(bT_none a0).1, (bT_none b0).1], by rw [(bT_none a0).2.2, (bT_none b0).2.2]⟩
    · obtain ⟨x, hx, hl, _⟩ := h2 _ (List.getElem_mem hi) bn
      obtain ⟨q, hq, rfl⟩ := List.mem_iff_getElem.1 hx
      exact absurd hl (ano q hq hq)
  · obtain ⟨y, hy, hl, e⟩ := h1 _ (List.getElem_mem hj) an
    obtain ⟨q, hq, rfl⟩ := List.mem_iff_getElem.1 hy
    rcases bI_min m bs bs.length (Nat.le_refl _) with ⟨b0, bno⟩ | ⟨i, hi, _, bi, bn, bmin⟩
    · exact absurd hl (bno q hq hq)
    · obtain ⟨x, hx, hxl, ex⟩ := h2 _ (List.getElem_mem hi) bn
      obtain ⟨p, hp, rfl⟩ := List.mem_iff_getElem.1 hx
      have g1 := amin p hp hp hxl
      have g2 := bmin q hq hq hl
      have ea : us.getD j (0, []) = us[j] := by rw [List.getD_eq_getElem?_getD, List.getElem?_eq_getElem hj]; rfl
      have eb : bs.getD i (0, []) = bs[i] := by rw [List.getD_eq_getElem?_getD, List.getElem?_eq_getElem hi]; rfl
      have n1 : ¬ (j : Int) < 0 := by omega
      have n2 : ¬ (i : Int) < 0 := by omega
      refine ⟨?_, by rw [aj, bi]; simp⟩
      unfold bT
      rw [aj, bi, if_neg n1, if_neg n2, Int.toNat_natCast, Int.toNat_natCast, ea, eb]
      omega
theorem strip_full {l : List Int} (h : l.getLast? ≠ some 0) : strip l = l := by
  unfold strip
  by_cases h0 : l = []
  · subst h0; rfl
  · have hp : 0 < l.length := List.length_pos_iff.2 h0
    have : l.getD (l.length - 1) 0 ≠ 0 := by
      rw [List.getLast?_eq_getElem?] at h
      rw [List.getD_eq_getElem?_getD, List.getElem?_eq_getElem (by omega)] at *
      simpa using h
    rw [stripN_stop hp this, List.take_length]
theorem spl_fin {n : Nat} {l : List Int} (h : SplOk n l) (hp : 0 < l.length) : l.getLast? ≠ some 0 := by
  have := h.fin (by omega)
  rw [List.getLast?_eq_getElem?, List.getElem?_eq_getElem (by omega)]
  simpa using this
/-- A finished attempt without its first segment. -/
theorem join_fin {n : Nat} {x : Att} (hn : 2 ≤ n) (h : SplOk n x.2) (hl : x.2.length = n) : joinA 0 x = some (x.1, x.2.drop 1) ∧ (x.2.drop 1).length = n - 1 ∧ lastT (x.1, x.2.drop 1) = lastT x := by
  have h1 : (x.2.drop 1).length = n - 1 := by simp [hl]
  have e : x.2.eraseIdx 0 = x.2.drop 1 := by simp [List.eraseIdx_eq_take_drop_succ]
  have h3 : (x.2.drop 1).getLast? ≠ some 0 := by
    have := spl_fin h (by omega)
    rw [List.getLast?_eq_getElem?] at this ⊢
    rw [List.getElem?_drop, h1, show 1 + (n - 1 - 1) = x.2.length - 1 by omega]
    exact this
  have h2 := strip_full h3
  have h4 : stripN (x.2.drop 1) (x.2.drop 1).length = n - 1 := by rw [← strip_len, h2, h1]
  refine ⟨?_, h1, ?_⟩
  · unfold joinA
    rw [if_pos (by omega), e, h4, if_neg (by omega), h2]
  · unfold lastT
    simp only [h1]
    rw [List.getD_eq_getElem?_getD, List.getD_eq_getElem?_getD, List.getElem?_drop, show 1 + (n - 1 - 1) = x.2.length - 1 by omega]
theorem best_join {segs : List (List UInt8)} {l : List Att} (h : HistOk segs l) (hn : 2 ≤ segs.length) : bT segs.length l = bT (segs.length - 1) (joinL 0 l) ∧ decide (0 ≤ bI segs.length l l.length) = decide (0 ≤ bI (segs.length - 1) (joinL 0 l) (joinL 0 l).length) := by
  have hs : ∀ x ∈ l, SplOk segs.length x.2 := fun x hx => by
    obtain ⟨i, hi, rfl⟩ := List.mem_iff_getElem.1 hx
    exact h.spl i hi
  refine best_same (fun x hx hl => ?_) (fun y hy hl => ?_)
  · obtain ⟨h1, h2, h3⟩ := join_fin hn (hs x hx) hl
    exact ⟨_, List.mem_filterMap.2 ⟨x, hx, h1⟩, h2, h3⟩
  · obtain ⟨x, hx, hj⟩ := List.mem_filterMap.1 hy
    by_cases hf : x.2.length = segs.length
    · obtain ⟨h1, h2, h3⟩ := join_fin hn (hs x hx) hf
      rw [h1] at hj
      injection hj with hj
      subst hj
      exact ⟨x, hx, hf, h3.symm⟩
    · exfalso
      have hle := (hs x hx).len
      unfold joinA at hj
      split at hj
      · split at hj
        · cases hj
        · injection hj with hj
          subst hj
          have h1 := stripN_le (x.2.eraseIdx 0) (x.2.eraseIdx 0).length
          rw [strip_len] at hl
          have e9 : (x.2.eraseIdx 0).length = x.2.length - 1 := by rw [List.length_eraseIdx, if_pos ‹_›]
          omega
      · injection hj with hj
        subst hj
        omega
end Go.Proofs.YtggnccafmadacaaGreatDoor
