/- Texts of this seat, laid together: Cm. -/
import Derived.Test.YtapjahbflhingaaGreatDoorBu56
import Derived.Test.YtapjahbflhingaaGreatDoorBu53
import Derived.Test.YtapjahbflhingaaGreatDoorBu25
/- What a comparison is, and what its deltas are. Plain laws; no program in sight. -/
namespace Go.Proofs.YtapjahbflhingaaGreatDoor
set_option linter.unusedVariables false
set_option linter.unusedSimpArgs false
open Go.RowKit

def rowsQ (atts : List Att) (n : Nat) : List (List Int) := (List.range n).map fun k => sorted (rowA atts k)
theorem rowsQ_len (atts : List Att) (n : Nat) : (rowsQ atts n).length = n := by simp [rowsQ]
theorem rowsQ_at (atts : List Att) (n k : Nat) (h : k < (rowsQ atts n).length) : (rowsQ atts n)[k] = sorted (rowA atts k) := by simp [rowsQ]
theorem rowsQ_snoc (atts : List Att) (n : Nat) : rowsQ atts (n + 1) = rowsQ atts n ++ [sorted (rowA atts n)] := by simp [rowsQ, List.range_succ]
theorem rowsS_full (atts : List Att) (n : Nat) : rowsS atts n n = rowsQ atts n := by
  unfold rowsS rowsQ
  refine List.map_congr_left fun k hk => ?_
  rw [if_pos (by simpa using hk)]
theorem row_ok {segs : List (List UInt8)} {atts : List Att} (hok : HistOk segs atts) (k : Nat) : RowOk (sorted (rowA atts k)) where
  up := by
    intro i h
    have := List.pairwise_mergeSort (le := fun x y : Int => decide (x ≤ y)) (fun a b c h1 h2 => by simp at *; omega) (fun a b => by simp; omega) (rowA atts k)
    have h2 := (List.pairwise_iff_getElem.1 this) i (i + 1) (by unfold sorted at h; omega) (by unfold sorted at h; omega) (by omega)
    exact of_decide_eq_true h2
  bd := fun x hx => rowA_bd hok.spl k x (sorted_mem.1 hx)
  m := by rw [sorted_len]; have := rowA_len atts k; have := hok.m; omega
theorem rowsQ_ok {segs : List (List UInt8)} {atts : List Att} (hok : HistOk segs atts) (n : Nat) : ∀ r ∈ rowsQ atts n, RowOk r := by
  intro r hr
  obtain ⟨k, _, rfl⟩ := List.mem_map.1 hr
  exact row_ok hok k
def fullB (rows : List (List Int)) : Bool := rows.all fun r => decide (0 < r.length)
theorem fullB_at {rows : List (List Int)} (h : fullB rows = true) {k : Nat} (hk : k < rows.length) : 0 < rows[k].length := by
  have := List.all_eq_true.1 h _ (List.getElem_mem hk)
  simpa using this
theorem fullB_snoc (rows : List (List Int)) (r : List Int) : fullB (rows ++ [r]) = (fullB rows && decide (0 < r.length)) := by simp [fullB]
theorem fullB_any (rows : List (List Int)) : (rows.any fun r => decide (r.length = 0)) = !fullB rows := by
  unfold fullB
  induction rows with
  | nil => rfl
  | cons r rows ih =>
    rw [List.any_cons, List.all_cons, ih, Bool.not_and]
    congr 1
    by_cases h : r.length = 0
    · simp [h]
    · simp [h]; omega
def eachO (f : List Int → Int) (rows : List (List Int)) : Option (List Int) := if fullB rows then some (addA (rows.map f)) else none
def evenO (rows : List (List Int)) (most : Int) : Option (List Int) := (evF rows most 1001).map fun p => addA (rows.map fun r => levA r p)
def bestO (n : Nat) (atts : List Att) : Option (List Int) := if bI n atts atts.length < 0 then none else some (atts.getD (bI n atts atts.length).toNat (0, [])).2
theorem bestO_none {n : Nat} {atts : List Att} (h : bI n atts atts.length = -1) : bestO n atts = none := by simp [bestO, h]
theorem bestO_at {n : Nat} {atts : List Att} {j : Nat} (h : bI n atts atts.length = j) (hj : j < atts.length) : bestO n atts = some atts[j].2 := by
  have hn : ¬ (j : Int) < 0 := by omega
  have e : atts.getD j (0, []) = atts[j] := by rw [List.getD_eq_getElem?_getD, List.getElem?_eq_getElem hj]; rfl
  simp only [bestO, h, hn, if_false, Int.toNat_natCast, e]
/-- The last finished one of the first attempts. -/
def lastO (n : Nat) (atts : List Att) : Nat → Option (List Int)
  | 0 => none
  | k + 1 => if h : k < atts.length then (if atts[k].2.length = n then some atts[k].2 else lastO n atts k) else lastO n atts k
theorem lastO_yes {n : Nat} {atts : List Att} {k : Nat} (hk : k < atts.length) (h : atts[k].2.length = n) : lastO n atts (k + 1) = some atts[k].2 := by simp [lastO, hk, h]
theorem lastO_no {n : Nat} {atts : List Att} {k : Nat} (hk : k < atts.length) (h : ¬ atts[k].2.length = n) : lastO n atts (k + 1) = lastO n atts k := by simp [lastO, hk, h]
theorem lastO_inv (n : Nat) (atts : List Att) : ∀ k, lastO n atts k = none ∨ ∃ j, ∃ h : j < atts.length, lastO n atts k = some atts[j].2 ∧ atts[j].2.length = n := by
  intro k
  induction k with
  | zero => exact .inl rfl
  | succ k ih =>
    by_cases hk : k < atts.length
    · by_cases h : atts[k].2.length = n
      · exact .inr ⟨k, hk, lastO_yes hk h, h⟩
      · rw [lastO_no hk h]; exact ih
    · have : lastO n atts (k + 1) = lastO n atts k := by simp [lastO, hk]
      rw [this]; exact ih
def goldF (r : List Int) : Int := r.headD 0
theorem goldF_at {r : List Int} (h : 0 < r.length) : goldF r = r[0] := by
  unfold goldF; rw [List.headD_eq_head?_getD, List.head?_eq_getElem?, List.getElem?_eq_getElem h]; rfl
/-- The splits of a comparison. -/
def cmpO (n : Nat) (atts : List Att) (how : Int) : Option (List Int) :=
  if how = 1 then bestO n atts
  else if how = 2 then eachO goldF (rowsQ atts n)
  else if how = 3 then eachO mnA (rowsQ atts n)
  else if how = 4 then eachO (fun r => levA r 500) (rowsQ atts n)
  else if how = 5 then lastO n atts atts.length
  else if bI n atts atts.length < 0 then none else if fullB (rowsQ atts n) then evenO (rowsQ atts n) (bT n atts) else none
/-- So many splits, within bounds. -/
def CmpOk (n : Nat) (o : Option (List Int)) : Prop := ∀ l, o = some l → l.length = n ∧ ∀ i (h : i < l.length), 0 ≤ l[i] ∧ l[i] ≤ 51840000000
theorem CmpOk.none_ (n : Nat) : CmpOk n none := fun _ h => by cases h
theorem addA_ok {n : Nat} {l : List Int} (hl : l.length = n) (hn : n ≤ 60) (h : ∀ x ∈ l, 0 ≤ x ∧ x ≤ 864000000) : CmpOk n (some (addA l)) := by
  intro m hm
  injection hm with hm
  subst hm
  refine ⟨by rw [addA_len, hl], fun i hi => ?_⟩
  rw [addA_at]
  have h1 : i < l.length := by simpa [addA_len] using hi
  have := preS_bd h (i + 1) (by omega)
  omega
theorem att_ok {segs : List (List UInt8)} {atts : List Att} (hok : HistOk segs atts) {j : Nat} (hj : j < atts.length) (hn : atts[j].2.length = segs.length) : CmpOk segs.length (some atts[j].2) := by
  intro m hm
  injection hm with hm
  subst hm
  refine ⟨hn, fun i hi => ?_⟩
  have := (hok.spl j hj).bd i hi
  omega
theorem each_ok {n : Nat} {rows : List (List Int)} {f : List Int → Int} (hn : rows.length = n) (h6 : n ≤ 60) (hf : ∀ r ∈ rows, 0 < r.length → 0 ≤ f r ∧ f r ≤ 864000000) : CmpOk n (eachO f rows) := by
  unfold eachO
  split
  · rename_i h
    refine addA_ok (by simpa using hn) h6 (fun x hx => ?_)
    obtain ⟨r, hr, rfl⟩ := List.mem_map.1 hx
    have := List.all_eq_true.1 h r hr
    exact hf r hr (by simpa using this)
  · exact .none_ _
theorem goldF_bd {r : List Int} (h : RowOk r) (h0 : 0 < r.length) : 0 ≤ goldF r ∧ goldF r ≤ 864000000 := by
  rw [goldF_at h0]; have := h.at h0; omega
theorem evF_lt {rows : List (List Int)} {most : Int} : ∀ k p, evF rows most k = some p → p < k ∧ (rows.map fun r => levA r p).sum ≤ most := by
  intro k
  induction k with
  | zero => intro p h; cases h
  | succ k ih =>
    intro p h
    by_cases hc : (rows.map fun r => levA r k).sum ≤ most
    · rw [evF_yes hc] at h
      injection h with h
      subst h
      exact ⟨by omega, hc⟩
    · rw [evF_no hc] at h
      have := ih p h
      exact ⟨by omega, this.2⟩
theorem even_ok {n : Nat} {rows : List (List Int)} {most : Int} (hn : rows.length = n) (h6 : n ≤ 60) (hr : ∀ r ∈ rows, RowOk r) (h0 : fullB rows = true) : CmpOk n (evenO rows most) := by
  unfold evenO
  cases h : evF rows most 1001 with
  | none => exact .none_ _
  | some p =>
    have hp := (evF_lt _ _ h).1
    refine addA_ok (by simpa using hn) h6 (fun x hx => ?_)
    obtain ⟨r, hm, rfl⟩ := List.mem_map.1 hx
    have h1 := List.all_eq_true.1 h0 r hm
    have := levA_bd (hr r hm) (part := p) (by simpa using h1) (by omega)
    omega
theorem cmp_ok {segs : List (List UInt8)} {atts : List Att} (hok : HistOk segs atts) (how : Int) : CmpOk segs.length (cmpO segs.length atts how) := by
  have hn := hok.n2
  have hr := rowsQ_ok hok segs.length
  have hl := rowsQ_len atts segs.length
  unfold cmpO
  split
  · rcases bI_inv segs.length atts atts.length (Nat.le_refl _) with h | ⟨j, hj, h, _, hk⟩
    · rw [bestO_none h]; exact .none_ _
    · rw [bestO_at h hj]; exact att_ok hok hj hk
  · split
    · exact each_ok hl hn fun r hm h0 => goldF_bd (hr r hm) h0
    · split
      · exact each_ok hl hn fun r hm h0 => mnA_bd (hr r hm) h0
      · split
        · exact each_ok hl hn fun r hm h0 => by have := levA_bd (hr r hm) (part := 500) h0 (by omega); omega
        · split
          · rcases lastO_inv segs.length atts atts.length with h | ⟨j, hj, h, hk⟩
            · rw [h]; exact .none_ _
            · rw [h]; exact att_ok hok hj hk
          · split
            · exact .none_ _
            · split
              · rename_i h0
                exact even_ok hl hn hr h0
              · exact .none_ _

/-! ### deltas -/
abbrev Dlt := List UInt8 × Int × Int × Bool
def knw (live other : List Int) (k : Nat) : Prop := live.getD k 0 ≠ 0 ∧ other.getD k 0 ≠ 0
instance (live other : List Int) (k : Nat) : Decidable (knw live other k) := by unfold knw; infer_instance
/-- How late one is after so many splits. -/
def dLate (live other : List Int) : Nat → Int
  | 0 => 0
  | k + 1 => if knw live other k then live.getD k 0 - other.getD k 0 else dLate live other k
theorem dLate_yes {live other : List Int} {k : Nat} (h : knw live other k) : dLate live other (k + 1) = live.getD k 0 - other.getD k 0 := by simp [dLate, h]
theorem dLate_no {live other : List Int} {k : Nat} (h : ¬ knw live other k) : dLate live other (k + 1) = dLate live other k := by simp [dLate, h]
def dGold (atts : List Att) (live : List Int) (k : Nat) : Bool := decide (0 < tmA live k) && (goldA atts k == 0 || decide (tmA live k < goldA atts k))
def dAt (segs : List (List UInt8)) (atts : List Att) (live other : List Int) (k : Nat) : Dlt :=
  (segs.getD k [], if knw live other k then live.getD k 0 - other.getD k 0 else 0, if knw live other k then live.getD k 0 - other.getD k 0 - dLate live other k else 0, dGold atts live k)
def dltL (segs : List (List UInt8)) (atts : List Att) (live other : List Int) (k : Nat) : List Dlt := (List.range k).map (dAt segs atts live other)
theorem dltL_len (segs : List (List UInt8)) (atts : List Att) (live other : List Int) (k : Nat) : (dltL segs atts live other k).length = k := by simp [dltL]
theorem dltL_snoc (segs : List (List UInt8)) (atts : List Att) (live other : List Int) (k : Nat) : dltL segs atts live other (k + 1) = dltL segs atts live other k ++ [dAt segs atts live other k] := by simp [dltL, List.range_succ]
theorem dltL_at (segs : List (List UInt8)) (atts : List Att) (live other : List Int) (k i : Nat) (h : i < (dltL segs atts live other k).length) : (dltL segs atts live other k)[i] = dAt segs atts live other i := by simp [dltL]
theorem dAt_yes {segs : List (List UInt8)} {atts : List Att} {live other : List Int} {k : Nat} (hs : k < segs.length) (hl : k < live.length) (ho : k < other.length) (h : live[k] ≠ 0) (h' : other[k] ≠ 0) :
    dAt segs atts live other k = (segs[k], live[k] - other[k], live[k] - other[k] - dLate live other k, dGold atts live k) ∧ dLate live other (k + 1) = live[k] - other[k] := by
  have hk : knw live other k := ⟨by rwa [getD_is hl], by rwa [getD_is ho]⟩
  have e : segs.getD k [] = segs[k] := by rw [List.getD_eq_getElem?_getD, List.getElem?_eq_getElem hs]; rfl
  unfold dAt
  rw [if_pos hk, if_pos hk, dLate_yes hk, getD_is hl, getD_is ho, e]
  exact ⟨rfl, rfl⟩
theorem dAt_no {segs : List (List UInt8)} {atts : List Att} {live other : List Int} {k : Nat} (hs : k < segs.length) (hl : k < live.length) (ho : k < other.length) (h : ¬ (live[k] ≠ 0 ∧ other[k] ≠ 0)) :
    dAt segs atts live other k = (segs[k], 0, 0, dGold atts live k) ∧ dLate live other (k + 1) = dLate live other k := by
  have hk : ¬ knw live other k := fun hk => h ⟨by have := hk.1; rwa [getD_is hl] at this, by have := hk.2; rwa [getD_is ho] at this⟩
  have e : segs.getD k [] = segs[k] := by rw [List.getD_eq_getElem?_getD, List.getElem?_eq_getElem hs]; rfl
  unfold dAt
  rw [if_neg hk, if_neg hk, dLate_no hk, e]
  exact ⟨rfl, rfl⟩
theorem dLate_bd {n : Nat} {live other : List Int} (h1 : ∀ i (h : i < live.length), 0 ≤ live[i] ∧ live[i] ≤ 864000000) (h2 : CmpOk n (some other)) : ∀ k, -51840000000 ≤ dLate live other k ∧ dLate live other k ≤ 51840000000 := by
  intro k
  induction k with
  | zero => simp [dLate]
  | succ k ih =>
    by_cases hk : knw live other k
    · rw [dLate_yes hk]
      have a : k < live.length := by
        rcases Nat.lt_or_ge k live.length with h | h
        · exact h
        · exact absurd (by rw [List.getD_eq_getElem?_getD, List.getElem?_eq_none h]; rfl) hk.1
      have b : k < other.length := by
        rcases Nat.lt_or_ge k other.length with h | h
        · exact h
        · exact absurd (by rw [List.getD_eq_getElem?_getD, List.getElem?_eq_none h]; rfl) hk.2
      rw [getD_is a, getD_is b]
      have := h1 k a
      have := (h2 _ rfl).2 k b
      omega
    · rw [dLate_no hk]; exact ih

/-! ### deltas in memory -/
def dlC (d : Dlt) : List Value := [encStr d.1, .int .i64 d.2.1, .int .i64 d.2.2.1, .bool d.2.2.2]
def dls (ds : List Dlt) : List Value := ds.flatMap dlC
theorem dls_len (ds : List Dlt) : (dls ds).length = ds.length * 4 := by
  induction ds with
  | nil => rfl
  | cons d ds ih =>
    have e : dls (d :: ds) = dlC d ++ dls ds := by simp [dls]
    rw [e, List.length_append, ih, List.length_cons]
    simp [dlC]; omega
theorem dls_app (a b : List Dlt) : dls (a ++ b) = dls a ++ dls b := by simp [dls]
theorem dls_all (ds : List Dlt) : (dls ds).all (·.oneCell') = true := by
  rw [List.all_eq_true]
  intro v hv
  obtain ⟨d, _, hd⟩ := List.mem_flatMap.1 hv
  simp [dlC] at hd
  rcases hd with rfl | rfl | rfl | rfl <;> rfl
theorem dls_at (ds : List Dlt) (k : Nat) (hk : k < ds.length) : (dls ds)[k * 4]? = some (encStr ds[k].1) ∧ (dls ds)[k * 4 + 1]? = some (.int .i64 ds[k].2.1) ∧ (dls ds)[k * 4 + 2]? = some (.int .i64 ds[k].2.2.1) ∧ (dls ds)[k * 4 + 3]? = some (.bool ds[k].2.2.2) := by
  induction ds generalizing k with
  | nil => simp at hk
  | cons d ds ih =>
    have e : dls (d :: ds) = dlC d ++ dls ds := by simp [dls]
    rw [e]
    cases k with
    | zero => simp [dlC]
    | succ k =>
      have := ih k (by simpa using hk)
      have l4 : (dlC d).length = 4 := rfl
      refine ⟨?_, ?_, ?_, ?_⟩ <;> (rw [List.getElem?_append_right (by rw [l4]; omega), l4])
      · rw [show (k + 1) * 4 - 4 = k * 4 by omega]; simpa using this.1
      · rw [show (k + 1) * 4 + 1 - 4 = k * 4 + 1 by omega]; simpa using this.2.1
      · rw [show (k + 1) * 4 + 2 - 4 = k * 4 + 2 by omega]; simpa using this.2.2.1
      · rw [show (k + 1) * 4 + 3 - 4 = k * 4 + 3 by omega]; simpa using this.2.2.2
theorem Row.dl_at {w : World} {lo : Nat} {A : Option Addr} {ds : List Dlt} (h : Row w lo 4 A ds.length (dls ds)) {k : Nat} (hk : k < ds.length) :
    ∃ b off, A = some ⟨b, off, none⟩ ∧ lo ≤ b ∧ b < w.heap.size ∧ w.cell? ⟨b, off + k * 4, none⟩ = some (encStr ds[k].1) ∧ w.cell? ⟨b, off + k * 4 + 1, none⟩ = some (.int .i64 ds[k].2.1) ∧ w.cell? ⟨b, off + k * 4 + 2, none⟩ = some (.int .i64 ds[k].2.2.1) ∧ w.cell? ⟨b, off + k * 4 + 3, none⟩ = some (.bool ds[k].2.2.2) := by
  obtain ⟨b, off, e, hl, hb, hc⟩ := h.2 (by omega)
  obtain ⟨h1, h2, h3, h4⟩ := dls_at ds k hk
  exact ⟨b, off, e, hl, hb, hc _ _ h1, by rw [Nat.add_assoc]; exact hc _ _ h2, by rw [Nat.add_assoc]; exact hc _ _ h3, by rw [Nat.add_assoc]; exact hc _ _ h4⟩
end Go.Proofs.YtapjahbflhingaaGreatDoor
