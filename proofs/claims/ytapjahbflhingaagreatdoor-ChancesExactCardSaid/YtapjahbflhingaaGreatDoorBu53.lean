/- Texts of this seat, laid together: Hq Hc Sl Lv. -/
import Derived.IntWalk
import Derived.Test.YtapjahbflhingaaGreatDoorBu52
import Derived.Test.YtapjahbflhingaaGreatDoorBu24
import Derived.Test.YtapjahbflhingaaGreatDoorBu09
import Derived.Test.YtapjahbflhingaaGreatDoorBu01
import Derived.Test.YtapjahbflhingaaGreatDoorBu03
/- Plain laws of histories: the times of segments, their rows, records, where an attempt is, the least sums from the end on. No program in sight. -/
namespace Go.Proofs.YtapjahbflhingaaGreatDoor
set_option linter.unusedVariables false
set_option linter.unusedSimpArgs false


theorem getD_is {l : List Int} {k : Nat} (h : k < l.length) : l.getD k 0 = l[k] := by rw [List.getD_eq_getElem?_getD, List.getElem?_eq_getElem h]; rfl
/-- The time of a segment; 0: not known. -/
def tmA (l : List Int) (k : Nat) : Int := if l.getD k 0 ≠ 0 ∧ goodA l k then l.getD k 0 - pvA l k else 0
def tmL (l : List Int) (j : Nat) : List Int := (List.range j).map (tmA l)
theorem tmL_len (l : List Int) (j : Nat) : (tmL l j).length = j := by simp [tmL]
theorem tmL_snoc (l : List Int) (j : Nat) : tmL l (j + 1) = tmL l j ++ [tmA l j] := by simp [tmL, List.range_succ]
theorem tmL_at (l : List Int) (j i : Nat) (h : i < (tmL l j).length) : (tmL l j)[i] = tmA l i := by simp [tmL]
theorem tmA_zero {l : List Int} {k : Nat} (hk : k < l.length) (h : l[k] = 0) : tmA l k = 0 := by
  unfold tmA; rw [getD_is hk, if_neg (fun x => x.1 h)]
theorem tmA_first {l : List Int} (hk : 0 < l.length) : tmA l 0 = l[0] := by
  unfold tmA
  rw [getD_is hk]
  by_cases h : l[0] = 0
  · rw [if_neg (fun x => x.1 h), h]
  · rw [if_pos ⟨h, .inl rfl⟩]; simp [pvA]
theorem tmA_gap {l : List Int} {k : Nat} (hk : k + 1 < l.length) (h : l[k] = 0) : tmA l (k + 1) = 0 := by
  unfold tmA
  rw [if_neg]
  rintro ⟨_, h1 | ⟨_, h1⟩⟩
  · omega
  · rw [Nat.add_sub_cancel, getD_is (by omega)] at h1; exact h1 h
theorem tmA_diff {l : List Int} {k : Nat} (hk : k + 1 < l.length) (h : l[k] ≠ 0) (h1 : l[k + 1] ≠ 0) : tmA l (k + 1) = l[k + 1] - l[k] := by
  unfold tmA
  rw [getD_is hk, if_pos ⟨h1, .inr ⟨by omega, by rw [Nat.add_sub_cancel, getD_is (by omega)]; exact h⟩⟩]
  unfold pvA
  rw [if_neg (by omega), Nat.add_sub_cancel, getD_is (by omega)]
theorem spl_le {n : Nat} {l : List Int} (h : SplOk n l) {i k : Nat} (hk : k < l.length) (hi : i < k) (h0 : l[k] ≠ 0) : l[i] < l[k] := by
  have h1 := h.up k hk h0
  have h2 : ∀ (m : List Int) (a : Int), a ≤ m.foldl max a ∧ ∀ x ∈ m, x ≤ m.foldl max a := by
    intro m
    induction m with
    | nil => intro a; exact ⟨Int.le_refl _, fun x hx => by cases hx⟩
    | cons y m ih =>
      intro a
      have := ih (max a y)
      refine ⟨by simp only [List.foldl_cons]; omega, fun x hx => ?_⟩
      rcases List.mem_cons.1 hx with rfl | hx
      · simp only [List.foldl_cons]; omega
      · exact this.2 x hx
  have h3 := (h2 (l.take k) 0).2 l[i] (by rw [List.mem_take_iff_getElem]; exact ⟨i, by omega, rfl⟩)
  unfold sgM at h1
  omega
theorem tmA_bd {n : Nat} {l : List Int} (h : SplOk n l) (k : Nat) : 0 ≤ tmA l k ∧ tmA l k ≤ 864000000 := by
  rcases Nat.lt_or_ge k l.length with hk | hk
  · by_cases h0 : l[k] = 0
    · rw [tmA_zero hk h0]; omega
    · have b := h.bd k hk
      rcases k with _ | k
      · rw [tmA_first hk]; exact b
      · by_cases h1 : l[k] = 0
        · rw [tmA_gap hk h1]; omega
        · rw [tmA_diff hk h1 h0]
          have := spl_le h hk (Nat.lt_succ_self k) h0
          have := h.bd k (by omega)
          omega
  · have : tmA l k = 0 := by
      unfold tmA
      rw [if_neg]
      rintro ⟨h1, _⟩
      rw [List.getD_eq_getElem?_getD, List.getElem?_eq_none (by omega)] at h1
      exact h1 rfl
    omega

/-- The known times of a segment, attempt by attempt. -/
def rowA (atts : List Att) (k : Nat) : List Int := atts.flatMap fun a => if k < a.2.length ∧ 0 < tmA a.2 k then [tmA a.2 k] else []
theorem rowA_snoc (atts : List Att) (a : Att) (k : Nat) : rowA (atts ++ [a]) k = rowA atts k ++ if k < a.2.length ∧ 0 < tmA a.2 k then [tmA a.2 k] else [] := by simp [rowA]
theorem rowA_take (atts : List Att) (j k : Nat) (hj : j < atts.length) : rowA (atts.take (j + 1)) k = rowA (atts.take j) k ++ if k < atts[j].2.length ∧ 0 < tmA atts[j].2 k then [tmA atts[j].2 k] else [] := by
  rw [List.take_succ_eq_append_getElem hj, rowA_snoc]
theorem rowA_len (atts : List Att) (k : Nat) : (rowA atts k).length ≤ atts.length := by
  induction atts with
  | nil => simp [rowA]
  | cons a atts ih =>
    have e : rowA (a :: atts) k = (if k < a.2.length ∧ 0 < tmA a.2 k then [tmA a.2 k] else []) ++ rowA atts k := by simp [rowA]
    rw [e, List.length_append, List.length_cons]
    split <;> simp <;> omega
theorem rowA_bd {n : Nat} {atts : List Att} (h : ∀ i (hi : i < atts.length), SplOk n atts[i].2) (k : Nat) : ∀ x ∈ rowA atts k, 0 < x ∧ x ≤ 864000000 := by
  intro x hx
  obtain ⟨a, ha, hx⟩ := List.mem_flatMap.1 hx
  obtain ⟨i, hi, rfl⟩ := List.mem_iff_getElem.1 ha
  split at hx
  · rename_i h1
    simp at hx
    subst hx
    exact ⟨h1.2, (tmA_bd (h i hi) k).2⟩
  · cases hx
/-- What one attempt adds to the rows, after so many of its segments. -/
def rowP (atts : List Att) (l : List Int) (j k : Nat) : List Int := rowA atts k ++ if k < j ∧ k < l.length ∧ 0 < tmA l k then [tmA l k] else []
/-- The least of the known times; 0: none is known. -/
def goldA (atts : List Att) (k : Nat) : Int := (sorted (rowA atts k)).headD 0
def goldL (atts : List Att) (j : Nat) : List Int := (List.range j).map (goldA atts)
theorem goldL_len (atts : List Att) (j : Nat) : (goldL atts j).length = j := by simp [goldL]
theorem goldL_snoc (atts : List Att) (j : Nat) : goldL atts (j + 1) = goldL atts j ++ [goldA atts j] := by simp [goldL, List.range_succ]
theorem goldL_at (atts : List Att) (j i : Nat) (h : i < (goldL atts j).length) : (goldL atts j)[i] = goldA atts i := by simp [goldL]

/-- Where an attempt is; -1: nowhere. -/
def atI (atts : List Att) (no : Int) : Int := match atts.findIdx? (fun a => decide (a.1 = no)) with | some k => (k : Int) | none => -1
theorem atI_none {atts : List Att} {no : Int} (h : ∀ j (hj : j < atts.length), atts[j].1 ≠ no) : atI atts no = -1 := by
  have : atts.findIdx? (fun a => decide (a.1 = no)) = none := by
    rw [List.findIdx?_eq_none_iff]
    intro a ha
    obtain ⟨i, hi, rfl⟩ := List.mem_iff_getElem.1 ha
    simpa using h i hi
  simp [atI, this]
theorem atI_some {atts : List Att} {no : Int} {k : Nat} (hk : k < atts.length) (h : ∀ j (hj : j < atts.length), j < k → atts[j].1 ≠ no) (he : atts[k].1 = no) : atI atts no = k := by
  have : atts.findIdx? (fun a => decide (a.1 = no)) = some k := by
    rw [List.findIdx?_eq_some_iff_getElem]
    exact ⟨hk, by simpa using he, fun j hj => by simpa using h j (by omega) hj⟩
  simp [atI, this]
theorem atI_inv (atts : List Att) (no : Int) : atI atts no = -1 ∨ ∃ k : Nat, ∃ h : k < atts.length, atI atts no = k ∧ atts[k].1 = no := by
  unfold atI
  cases h : atts.findIdx? (fun a => decide (a.1 = no)) with
  | none => exact .inl rfl
  | some k =>
    rw [List.findIdx?_eq_some_iff_getElem] at h
    obtain ⟨h1, h2, _⟩ := h
    exact .inr ⟨k, h1, rfl, by simpa using h2⟩

/-- The least time of the first attempts that are finished (0: none is) and the records. -/
def recK (n : Nat) (atts : List Att) : Nat → Int × List Int
  | 0 => (0, [])
  | k + 1 => if h : k < atts.length then (if atts[k].2.length = n ∧ ((recK n atts k).1 = 0 ∨ lastT atts[k] < (recK n atts k).1) then (lastT atts[k], (recK n atts k).2 ++ [atts[k].1]) else recK n atts k) else recK n atts k
theorem recK_no {n : Nat} {atts : List Att} {k : Nat} (hk : k < atts.length) (h : ¬ atts[k].2.length = n) : recK n atts (k + 1) = recK n atts k := by simp [recK, hk, h]
theorem recK_yes {n : Nat} {atts : List Att} {k : Nat} (hk : k < atts.length) (h : atts[k].2.length = n) (h1 : n - 1 < n) : recK n atts (k + 1) = if (recK n atts k).1 = 0 ∨ atts[k].2[n - 1]'(by omega) < (recK n atts k).1 then (atts[k].2[n - 1]'(by omega), (recK n atts k).2 ++ [atts[k].1]) else recK n atts k := by
  have e1 : lastT atts[k] = atts[k].2[n - 1]'(by omega) := by unfold lastT; simp only [List.getD_eq_getElem?_getD]; simp only [h]; rw [List.getElem?_eq_getElem (by omega)]; rfl
  simp only [recK, hk, dite_true, h, true_and, e1]
theorem last_bd {segs : List (List UInt8)} {atts : List Att} (hok : HistOk segs atts) {k : Nat} (hk : k < atts.length) (h : atts[k].2.length = segs.length) : 0 < lastT atts[k] ∧ lastT atts[k] ≤ 864000000 := by
  have hs := hok.spl k hk
  have n1 := hok.n1
  have h1 : atts[k].2.length - 1 < atts[k].2.length := by omega
  have e1 : lastT atts[k] = atts[k].2[atts[k].2.length - 1] := by unfold lastT; rw [getD_is h1]
  have := hs.bd _ h1
  have := hs.fin h1
  rw [e1]; omega
theorem recK_bd {segs : List (List UInt8)} {atts : List Att} (hok : HistOk segs atts) : ∀ k, k ≤ atts.length → 0 ≤ (recK segs.length atts k).1 ∧ (recK segs.length atts k).1 ≤ 864000000 ∧ (recK segs.length atts k).2.length ≤ k := by
  intro k
  induction k with
  | zero => intro _; simp [recK]
  | succ k ih =>
    intro hk
    obtain ⟨a, b, c⟩ := ih (by omega)
    have hlt : k < atts.length := by omega
    simp only [recK, hlt, dite_true]
    split
    · rename_i h
      have := last_bd hok hlt h.1
      refine ⟨by simp only []; omega, by simp only []; omega, by simp; omega⟩
    · exact ⟨a, b, by omega⟩

/-- Nothing is known from a place on. -/
theorem nxA_none (l : List Int) (k : Nat) : ∀ j, ¬ nxA l k j < j → ∀ i, k ≤ i → i < j → l.getD i 0 = 0 := by
  intro j
  induction j with
  | zero => intro _ i _ h; omega
  | succ j ih =>
    intro h0 i hk hi
    by_cases h2 : nxA l k j < j
    · exact absurd (show nxA l k (j + 1) < j + 1 by simp only [nxA, h2, if_true]; omega) h0
    · have h3 : ¬ (k ≤ j ∧ l.getD j 0 ≠ 0) := fun h3 => h0 (by simp only [nxA, h2, if_false, if_pos h3]; omega)
      rcases Nat.lt_or_ge i j with h4 | h4
      · exact ih h2 i hk h4
      · have : i = j := by omega
        subst this
        rcases Int.decEq (l.getD i 0) 0 with h5 | h5
        · exact absurd ⟨hk, h5⟩ h3
        · exact h5
theorem nxA_is {l : List Int} {k m j : Nat} (hk : k ≤ m) (hm : m < j) (h : l.getD m 0 ≠ 0) (hz : ∀ i, k ≤ i → i < m → l.getD i 0 = 0) : nxA l k j = m := by
  by_cases h1 : nxA l k j < j
  · obtain ⟨a, b, c⟩ := nxA_spec l k j h1
    rcases Nat.lt_trichotomy (nxA l k j) m with h2 | h2 | h2
    · exact absurd (hz _ a h2) b
    · exact h2
    · exact absurd (c m hk h2) h
  · exact absurd (nxA_none l k j h1 m hk hm) h
theorem nxA_no {l : List Int} {k j : Nat} (hz : ∀ i, k ≤ i → i < j → l.getD i 0 = 0) : ¬ nxA l k j < j := fun h => by
  obtain ⟨a, b, _⟩ := nxA_spec l k j h
  exact b (hz _ a h)
theorem candA_not {V : Nat → Int} {l : List Int} {k : Nat} (h : ¬ goodA l k) : candA V l k = [] := by unfold candA; rw [if_neg (fun x => h x.1)]
theorem candA_none {V : Nat → Int} {l : List Int} {k : Nat} (hz : ∀ i, k ≤ i → i < l.length → l.getD i 0 = 0) : candA V l k = [] := by unfold candA; rw [if_neg (fun x => nxA_no hz x.2.1)]
theorem candA_neg {V : Nat → Int} {l : List Int} {k m : Nat} (hk : k ≤ m) (hm : m < l.length) (h : l.getD m 0 ≠ 0) (hz : ∀ i, k ≤ i → i < m → l.getD i 0 = 0) (hv : ¬ 0 ≤ V (m + 1)) : candA V l k = [] := by
  unfold candA; rw [nxA_is hk hm h hz, if_neg (fun x => hv x.2.2)]
theorem candA_is {V : Nat → Int} {l : List Int} {k m : Nat} (hg : goodA l k) (hk : k ≤ m) (hm : m < l.length) (h : l.getD m 0 ≠ 0) (hz : ∀ i, k ≤ i → i < m → l.getD i 0 = 0) (hv : 0 ≤ V (m + 1)) : candA V l k = [l.getD m 0 - pvA l k + V (m + 1)] := by
  unfold candA; rw [nxA_is hk hm h hz, if_pos ⟨hg, hm, hv⟩]
/-- The least sum from a place on, after so many attempts. -/
def lwA (V : Nat → Int) (atts : List Att) (k j : Nat) : Int := leastOf ((atts.take j).flatMap fun a => candA V a.2 k)
theorem lwA_zero (V : Nat → Int) (atts : List Att) (k : Nat) : lwA V atts k 0 = -1 := by simp [lwA, leastOf]
theorem lwA_skip {V : Nat → Int} {atts : List Att} {k j : Nat} (hj : j < atts.length) (h : candA V atts[j].2 k = []) : lwA V atts k (j + 1) = lwA V atts k j := by
  unfold lwA; rw [List.take_succ_eq_append_getElem hj, List.flatMap_append]; simp [h]
theorem lwA_step {V : Nat → Int} {atts : List Att} {k j : Nat} {c : Int} (hj : j < atts.length) (h : candA V atts[j].2 k = [c]) : lwA V atts k (j + 1) = if lwA V atts k j < 0 ∨ c < lwA V atts k j then c else lwA V atts k j := by
  unfold lwA; rw [List.take_succ_eq_append_getElem hj, List.flatMap_append]; simp [h, leastOf_snoc]
theorem lwA_all {segs : List (List UInt8)} {atts : List Att} (hok : HistOk segs atts) {k : Nat} (hk : k < segs.length) : lwA (lvV (stepsA atts) segs.length) atts k atts.length = lvV (stepsA atts) segs.length k := by
  rw [lvV_eq (stepsA_fwd hok).1 k hk, cands_A]
  unfold lwA
  rw [List.take_length]
end Go.Proofs.YtapjahbflhingaaGreatDoor
/- The walks of segment.times and splitref1.LengthsOf at right splits. -/
namespace Go.Proofs.YtapjahbflhingaaGreatDoor
set_option linter.unusedVariables false
set_option linter.unusedSimpArgs false
open Go.RowKit

theorem info_int : (Tryz.prog.info? 3).map (fun i => (i.zero, i.size, i.bytes)) = some (some (.int .i64 0), 1, 8) := by kernel_rfl
theorem ints_repz (n : Nat) : (madeCells #[Value.int .i64 0] n).toList = ints (List.replicate n 0) := by
  rw [toList_madeCells_one]
  simp [ints]
theorem ints_set (xs : List Int) (k : Nat) (x : Int) : (ints xs).set k (.int .i64 x) = ints (xs.set k x) := by simp [ints, List.map_set]
/-- What is laid down after so many segments. -/
def tmS (l : List Int) (k n : Nat) : List Int := tmL l k ++ List.replicate (n - k) 0
theorem tmS_len (l : List Int) (k n : Nat) (h : k ≤ n) : (tmS l k n).length = n := by simp [tmS, tmL_len]; omega
theorem tmS_zero (l : List Int) (n : Nat) : tmS l 0 n = List.replicate n 0 := by simp [tmS, tmL]
theorem tmS_end (l : List Int) (n : Nat) : tmS l n n = tmL l n := by simp [tmS]
theorem tmS_next {l : List Int} {k n : Nat} (h : k < n) : tmS l (k + 1) n = (tmS l k n).set k (tmA l k) := by
  have e : n - k = (n - (k + 1)) + 1 := by omega
  unfold tmS
  rw [tmL_snoc, e, List.replicate_succ, List.set_append_right _ _ (by rw [tmL_len]; exact Nat.le_refl _), tmL_len, Nat.sub_self]
  simp
theorem tmS_same {l : List Int} {k n : Nat} (h : k < n) (h0 : tmA l k = 0) : tmS l (k + 1) n = tmS l k n := by
  have e : n - k = (n - (k + 1)) + 1 := by omega
  unfold tmS
  rw [tmL_snoc, h0, e, List.replicate_succ]
  simp

set_option maxHeartbeats 2000000 in
theorem htimes_any (many : Nat) (B : Option Addr) (c lo : Nat) (l : List Int) (w : World) (hr : Row w lo 1 B l.length (ints l)) (hl : l.length ≤ 1000000000) (hok : SplOk many l) :
    Calls Tryz.prog 47 #[.slice B l.length c] w fun e w' => ∃ A' c', e = .returned (.slice A' (tmL l l.length).length c') ∧ w'.ownsRow w.heap.size 3 1 (.slice A' (tmL l l.length).length c') (tmL l l.length).length (ints (tmL l l.length)) ∧ Below w.heap.size w w' := by
  obtain ⟨und, _, _⟩ := ty_ints
  obtain ⟨i0, hi0, hz0, hz1, hz2⟩ := info_parts info_int
  have HO := Lib.hid hok
  clear hok
  have HE : Hid ((tmL l l.length).length = l.length) := Lib.hid (tmL_len _ _)
  go_enter Tryz.func47, Tryz.ntmps47
  go_wp2_with (at_make; go_must (refine wpList_make_full _ rfl _ _ 22 rfl w.heap.size 3 i0 _ 1 und hi0 hz0 hz1 .i64 .i64 _ _ l.length rfl rfl rfl rfl (by rw [hz2]; omega) (by simp only [maxLen]; omega) (Nat.le_refl _) ?_))
  intro w1 hown1 hg1
  rw [ints_repz, ← tmS_zero l] at hown1
  have hb1 : Below w.heap.size w w1 := (Below.refl _ _).grown hg1 (Nat.le_refl _) (fun k hk => by cases hk)
  clear hg1
  go_wp2_with fail
  go_loopw [12] (fun i wr => ∃ k : Nat, k ≤ l.length ∧ i = .int .i64 k ∧ wr.ownsRow w.heap.size 3 1 (.slice (some ⟨w.heap.size, 0, none⟩) l.length l.length) l.length (ints (tmS l k l.length)) ∧ Below w.heap.size w wr) (fun i _ => l.length - (intOf i).toNat)
  case atStart => exact ⟨0, Nat.zero_le _, rfl, hown1, hb1⟩
  case round =>
    obtain ⟨k, hk, rfl, hown, hbw⟩ := hrel
    clear hown1 hb1
    by_cases hlt : k < l.length
    · obtain ⟨b, off, rfl, _, hbs, c0⟩ := (hr.below hbw).int_at hlt
      obtain ⟨g, hg, hg1, hgs, hcs, hfr⟩ := ownBlk hown (by omega)
      have eg : g = w.heap.size := (congrArg Addr.block (Option.some.inj hg)).symm
      rw [eg] at hcs hfr
      clear eg hg1 hgs
      obtain ⟨old, ck⟩ : ∃ old, wr.cell? ⟨w.heap.size, k, none⟩ = some old := by
        have hll : k < (tmS l k l.length).length := by rw [tmS_len _ _ _ hk]; exact hlt
        exact ⟨_, hcs k (.int .i64 (tmS l k l.length)[k]) (by simp [ints, List.getElem?_eq_getElem hll])⟩
      have fk := hfr k
      clear hcs hfr hg
      have HNX := Lib.hid (tmS_next (l := l) hlt)
      have HSM := Lib.hid (tmS_same (l := l) hlt)
      have HST := Lib.hid (fun x => by have := (hown.stored k (.int .i64 x)); rw [ints_set] at this; exact this)
      have bd := HO.out.bd k hlt
      by_cases h0 : l[k] = 0
      · have HF := Lib.hid (HSM.out (tmA_zero hlt h0))
        have d1 : (l[k] != 0) = false := by simpa using h0
        generalize l[k] = x at *
        clear HSM HNX h0
        by_cases hk0 : k = 0
        · have d0 : decide ((0 : Int) < (k : Int)) = false := by simp; omega
          have d0' : decide (0 < k) = false := by simp; omega
          have d2 : (k : Int) ≤ 0 := by omega
          clear hk0
          go_wp2_with fail
          go_roundw
          case rel => exact ⟨k + 1, by omega, by go_num, by rw [HF.out]; exact hown, hbw⟩
          case measure => simp [intOf]; omega
        · have d0 : decide ((0 : Int) < (k : Int)) = true := by simp; omega
          have d0' : decide (0 < k) = true := by simp; omega
          have d2 : (0 : Int) < (k : Int) := by omega
          obtain ⟨b', off', e', _, hbs', cp⟩ := (hr.below hbw).int_at (k := k - 1) (by omega)
          obtain ⟨rfl, rfl⟩ : b' = b ∧ off' = off := by injection e' with e'; injection e' with h1 h2; exact ⟨h1.symm, h2.symm⟩
          generalize l[k - 1] = y at *
          have d3 : IntKind.i64.wrap ((k : Int) - 1) = ((k - 1 : Nat) : Int) := by rw [IntWalk.i64_in _ (by omega)]; omega
          clear e' hk0
          have hk1 : k - 1 < l.length := by omega
          go_wp2_with fail
          go_roundw
          case rel => exact ⟨k + 1, by omega, by go_num, by rw [HF.out]; exact hown, hbw⟩
          case measure => simp [intOf]; omega
      · have d1 : (l[k] != 0) = true := by simpa using h0
        by_cases hk0 : k = 0
        · have HT : Hid (tmA l k = l[k] - 0) := Lib.hid (by subst hk0; rw [tmA_first hlt]; omega)
          have HF : Hid (tmS l (k + 1) l.length = (tmS l k l.length).set k (l[k] - 0)) := Lib.hid (by rw [HNX.out, HT.out])
          generalize l[k] = x at *
          have d0 : decide ((0 : Int) < (k : Int)) = false := by simp; omega
          have d0' : decide (0 < k) = false := by simp; omega
          have d2 : (k : Int) ≤ 0 := by omega
          have d4 : ((k : Int) == 0) = true := by rw [beq_iff_eq]; omega
          have d5 : IntKind.i64.wrap (x - 0) = x - 0 := IntWalk.i64_in _ (by omega)
          have hs := HST.out (x - 0)
          clear hk0 HT HNX HSM h0
          go_wp2_with fail
          go_roundw
          case rel => exact ⟨k + 1, by omega, by go_num, by rw [HF.out]; first | exact hs.1 | simpa using hs.1, Below.setCell hbw (Nat.le_refl _) _⟩
          case measure => simp [intOf]; omega
        · have d0 : decide ((0 : Int) < (k : Int)) = true := by simp; omega
          have d0' : decide (0 < k) = true := by simp; omega
          have d2 : (0 : Int) < (k : Int) := by omega
          have d4 : ((k : Int) == 0) = false := by rw [beq_eq_false_iff_ne]; omega
          obtain ⟨b', off', e', _, hbs', cp⟩ := (hr.below hbw).int_at (k := k - 1) (by omega)
          obtain ⟨rfl, rfl⟩ : b' = b ∧ off' = off := by injection e' with e'; injection e' with h1 h2; exact ⟨h1.symm, h2.symm⟩
          have d3 : IntKind.i64.wrap ((k : Int) - 1) = ((k - 1 : Nat) : Int) := by rw [IntWalk.i64_in _ (by omega)]; omega
          have hk1 : k - 1 < l.length := by omega
          have bd' := HO.out.bd (k - 1) hk1
          have HG : Hid (l[k - 1] = 0 → tmA l k = 0) := Lib.hid (fun h => by
            obtain ⟨m, rfl⟩ : ∃ m, k = m + 1 := ⟨k - 1, by omega⟩
            exact tmA_gap hlt (by simpa using h))
          have HD : Hid (l[k - 1] ≠ 0 → tmA l k = l[k] - l[k - 1]) := Lib.hid (fun h => by
            obtain ⟨m, rfl⟩ : ∃ m, k = m + 1 := ⟨k - 1, by omega⟩
            simpa using tmA_diff hlt (by simpa using h) h0)
          generalize l[k - 1] = y at *
          clear e' hk0 h0
          by_cases hy : y = 0
          · have HF := Lib.hid (HSM.out (HG.out hy))
            have d6 : (y != 0) = false := by simpa using hy
            generalize l[k] = x at *
            clear hy HG HD HSM HNX
            go_wp2_with fail
            go_roundw
            case rel => exact ⟨k + 1, by omega, by go_num, by rw [HF.out]; exact hown, hbw⟩
            case measure => simp [intOf]; omega
          · have HF : Hid (tmS l (k + 1) l.length = (tmS l k l.length).set k (l[k] - y)) := Lib.hid (by rw [HNX.out, HD.out hy])
            have d6 : (y != 0) = true := by simpa using hy
            generalize l[k] = x at *
            have d5 : IntKind.i64.wrap (x - y) = x - y := IntWalk.i64_in _ (by omega)
            have hs := HST.out (x - y)
            clear hy HG HD HSM HNX
            go_wp2_with fail
            go_roundw
            case rel => exact ⟨k + 1, by omega, by go_num, by rw [HF.out]; exact hs.1, Below.setCell hbw (Nat.le_refl _) _⟩
            case measure => simp [intOf]; omega
    · have hkn : k = l.length := by omega
      subst hkn
      rw [tmS_end] at hown
      go_wp2_with fail
      go_ret
      exact ⟨some ⟨w.heap.size, 0, none⟩, l.length, by rw [HE.out]; rfl, by rw [HE.out]; exact hown, hbw⟩

set_option maxHeartbeats 2000000 in
theorem lengthsOf_any (many : Nat) (B : Option Addr) (c lo : Nat) (l : List Int) (w : World) (hr : Row w lo 1 B l.length (ints l)) (hl : l.length ≤ 1000000000) (hok : SplOk many l) :
    Calls Tryz.prog 59 #[.slice B l.length c] w fun e w' => ∃ A' c', e = .returned (.slice A' (tmL l l.length).length c') ∧ w'.ownsRow w.heap.size 3 1 (.slice A' (tmL l l.length).length c') (tmL l l.length).length (ints (tmL l l.length)) ∧ Below w.heap.size w w' := by
  have HO := Lib.hid hok
  clear hok
  go_enter Tryz.func59, Tryz.ntmps59
  go_wp2_with fail
  go_loopw [3, 9] (fun v i wr => ∃ (k : Nat) (A' : Option Addr) (c' : Nat), k ≤ l.length ∧ i = .int .i64 k ∧ v = .slice A' (tmL l k).length c' ∧ wr.ownsRow w.heap.size 3 1 (.slice A' (tmL l k).length c') (tmL l k).length (ints (tmL l k)) ∧ Below w.heap.size w wr) (fun _ i _ => l.length - (intOf i).toNat)
  case atStart => exact ⟨0, none, 0, Nat.zero_le _, rfl, rfl, World.ownsRow_nil _ _ _ _, Below.refl _ _⟩
  case round =>
    obtain ⟨k, A', c', hk, rfl, rfl, hown, hbw⟩ := hrel
    have hz := hbw.size
    by_cases hlt : k < l.length
    · obtain ⟨b, off, rfl, _, hbs, c0⟩ := (hr.below hbw).int_at hlt
      have bd := HO.out.bd k hlt
      have HS := Lib.hid (tmL_snoc l k)
      have hlk : (tmL l k).length ≤ 1000000000 := by rw [tmL_len]; omega
      generalize tmL l k = o at *
      by_cases hk0 : k = 0
      · have HT : Hid (tmA l k = l[k]) := Lib.hid (by subst hk0; exact tmA_first hlt)
        have d0 : decide ((0 : Int) < (k : Int)) = false := by simp; omega
        have d0' : decide (0 < k) = false := by simp; omega
        have d2 : (k : Int) ≤ 0 := by omega
        have d4 : ((k : Int) == 0) = true := by rw [beq_iff_eq]; omega
        generalize l[k] = x at *
        clear hk0
        by_cases hx : x = 0
        · have HF : Hid (tmL l (k + 1) = o ++ [0]) := Lib.hid (by rw [HS.out, HT.out, hx])
          have d1 : decide (0 < x) = false := by simp; omega
          clear hx HS HT
          go_wp2_with (at_builtin; go_must (refine wpList_app (lo := w.heap.size) (base := w.heap.size) (n := o.length) (xs := ints o) _ _ rfl _ _ ty_ints rfl (by repeat (first | exact hown | refine World.ownsRow.alloc ?_ _ | refine own_drewN ?_ _ | refine World.ownsRow.drew ?_)) rfl (by first | exact row_new' _ (by first | rfl | simp) (by first | omega | (simp; omega)) rfl | exact row_newN _ _ (by first | rfl | simp) (by first | omega | (simp; omega)) rfl | exact row_newD _ (by first | rfl | simp) (by first | omega | (simp; omega)) rfl) rfl rfl (by first | omega | decide) (by first | omega | decide) (by first | omega | (simp; omega)) ?_))
          intro A5 c5 w5 hown5 hg5 _
          go_wp2_with fail
          go_roundw
          case rel => exact ⟨k + 1, A5, c5, by omega, by go_num, by rw [HF.out]; simp, by rw [HF.out, ints_app, List.length_append]; exact hown5, below_app hown (by repeat (first | exact hbw | refine Below.alloc ?_ (by first | omega | (simp; omega)) _ | refine below_drewN' ?_ _ | refine Below.drew ?_)) hg5 (Nat.le_refl _) (by simp; omega)⟩
          case measure => simp [intOf]; omega
        · have HF : Hid (tmL l (k + 1) = o ++ [x]) := Lib.hid (by rw [HS.out, HT.out])
          have d1 : decide (0 < x) = true := by simp; omega
          clear hx HS HT
          go_wp2_with (at_builtin; go_must (refine wpList_app (lo := w.heap.size) (base := w.heap.size) (n := o.length) (xs := ints o) _ _ rfl _ _ ty_ints rfl (by repeat (first | exact hown | refine World.ownsRow.alloc ?_ _ | refine own_drewN ?_ _ | refine World.ownsRow.drew ?_)) rfl (by first | exact row_new' _ (by first | rfl | simp) (by first | omega | (simp; omega)) rfl | exact row_newN _ _ (by first | rfl | simp) (by first | omega | (simp; omega)) rfl | exact row_newD _ (by first | rfl | simp) (by first | omega | (simp; omega)) rfl) rfl rfl (by first | omega | decide) (by first | omega | decide) (by first | omega | (simp; omega)) ?_))
          intro A5 c5 w5 hown5 hg5 _
          go_wp2_with fail
          go_roundw
          case rel => exact ⟨k + 1, A5, c5, by omega, by go_num, by rw [HF.out]; simp, by rw [HF.out, ints_app, List.length_append]; exact hown5, below_app hown (by repeat (first | exact hbw | refine Below.alloc ?_ (by first | omega | (simp; omega)) _ | refine below_drewN' ?_ _ | refine Below.drew ?_)) hg5 (Nat.le_refl _) (by simp; omega)⟩
          case measure => simp [intOf]; omega
      · have d0 : decide ((0 : Int) < (k : Int)) = true := by simp; omega
        have d0' : decide (0 < k) = true := by simp; omega
        have d2 : (0 : Int) < (k : Int) := by omega
        have d4 : ((k : Int) == 0) = false := by rw [beq_eq_false_iff_ne]; omega
        obtain ⟨b', off', e', _, hbs', cp⟩ := (hr.below hbw).int_at (k := k - 1) (by omega)
        obtain ⟨rfl, rfl⟩ : b' = b ∧ off' = off := by injection e' with e'; injection e' with h1 h2; exact ⟨h1.symm, h2.symm⟩
        have d3 : IntKind.i64.wrap ((k : Int) - 1) = ((k - 1 : Nat) : Int) := by rw [IntWalk.i64_in _ (by omega)]; omega
        have hk1 : k - 1 < l.length := by omega
        have bd' := HO.out.bd (k - 1) hk1
        have HZ : Hid (l[k] = 0 → tmA l k = 0) := Lib.hid (fun h => tmA_zero hlt h)
        have HG : Hid (l[k - 1] = 0 → tmA l k = 0) := Lib.hid (fun h => by
          obtain ⟨m, rfl⟩ : ∃ m, k = m + 1 := ⟨k - 1, by omega⟩
          exact tmA_gap hlt (by simpa using h))
        have HD : Hid (l[k] ≠ 0 → l[k - 1] ≠ 0 → tmA l k = l[k] - l[k - 1]) := Lib.hid (fun h0 h => by
          obtain ⟨m, rfl⟩ : ∃ m, k = m + 1 := ⟨k - 1, by omega⟩
          simpa using tmA_diff hlt (by simpa using h) h0)
        generalize l[k - 1] = y at *
        generalize l[k] = x at *
        clear e' hk0
        by_cases hx : x = 0
        · have HF : Hid (tmL l (k + 1) = o ++ [0]) := Lib.hid (by rw [HS.out, HZ.out hx])
          have d1 : decide (0 < x) = false := by simp; omega
          clear hx HS HZ HG HD
          go_wp2_with (at_builtin; go_must (refine wpList_app (lo := w.heap.size) (base := w.heap.size) (n := o.length) (xs := ints o) _ _ rfl _ _ ty_ints rfl (by repeat (first | exact hown | refine World.ownsRow.alloc ?_ _ | refine own_drewN ?_ _ | refine World.ownsRow.drew ?_)) rfl (by first | exact row_new' _ (by first | rfl | simp) (by first | omega | (simp; omega)) rfl | exact row_newN _ _ (by first | rfl | simp) (by first | omega | (simp; omega)) rfl | exact row_newD _ (by first | rfl | simp) (by first | omega | (simp; omega)) rfl) rfl rfl (by first | omega | decide) (by first | omega | decide) (by first | omega | (simp; omega)) ?_))
          intro A5 c5 w5 hown5 hg5 _
          go_wp2_with fail
          go_roundw
          case rel => exact ⟨k + 1, A5, c5, by omega, by go_num, by rw [HF.out]; simp, by rw [HF.out, ints_app, List.length_append]; exact hown5, below_app hown (by repeat (first | exact hbw | refine Below.alloc ?_ (by first | omega | (simp; omega)) _ | refine below_drewN' ?_ _ | refine Below.drew ?_)) hg5 (Nat.le_refl _) (by simp; omega)⟩
          case measure => simp [intOf]; omega
        · have d1 : decide (0 < x) = true := by simp; omega
          by_cases hy : y = 0
          · have HF : Hid (tmL l (k + 1) = o ++ [0]) := Lib.hid (by rw [HS.out, HG.out hy])
            have d6 : decide (0 < y) = false := by simp; omega
            clear hx hy HS HZ HG HD
            go_wp2_with (at_builtin; go_must (refine wpList_app (lo := w.heap.size) (base := w.heap.size) (n := o.length) (xs := ints o) _ _ rfl _ _ ty_ints rfl (by repeat (first | exact hown | refine World.ownsRow.alloc ?_ _ | refine own_drewN ?_ _ | refine World.ownsRow.drew ?_)) rfl (by first | exact row_new' _ (by first | rfl | simp) (by first | omega | (simp; omega)) rfl | exact row_newN _ _ (by first | rfl | simp) (by first | omega | (simp; omega)) rfl | exact row_newD _ (by first | rfl | simp) (by first | omega | (simp; omega)) rfl) rfl rfl (by first | omega | decide) (by first | omega | decide) (by first | omega | (simp; omega)) ?_))
            intro A5 c5 w5 hown5 hg5 _
            go_wp2_with fail
            go_roundw
            case rel => exact ⟨k + 1, A5, c5, by omega, by go_num, by rw [HF.out]; simp, by rw [HF.out, ints_app, List.length_append]; exact hown5, below_app hown (by repeat (first | exact hbw | refine Below.alloc ?_ (by first | omega | (simp; omega)) _ | refine below_drewN' ?_ _ | refine Below.drew ?_)) hg5 (Nat.le_refl _) (by simp; omega)⟩
            case measure => simp [intOf]; omega
          · have HF : Hid (tmL l (k + 1) = o ++ [x - y]) := Lib.hid (by rw [HS.out, HD.out hx hy])
            have d6 : decide (0 < y) = true := by simp; omega
            have d5 : IntKind.i64.wrap (x - y) = x - y := IntWalk.i64_in _ (by omega)
            clear hx hy HS HZ HG HD
            go_wp2_with (at_builtin; go_must (refine wpList_app (lo := w.heap.size) (base := w.heap.size) (n := o.length) (xs := ints o) _ _ rfl _ _ ty_ints rfl (by repeat (first | exact hown | refine World.ownsRow.alloc ?_ _ | refine own_drewN ?_ _ | refine World.ownsRow.drew ?_)) rfl (by first | exact row_new' _ (by first | rfl | simp) (by first | omega | (simp; omega)) rfl | exact row_newN _ _ (by first | rfl | simp) (by first | omega | (simp; omega)) rfl | exact row_newD _ (by first | rfl | simp) (by first | omega | (simp; omega)) rfl) rfl rfl (by first | omega | decide) (by first | omega | decide) (by first | omega | (simp; omega)) ?_))
            intro A5 c5 w5 hown5 hg5 _
            go_wp2_with fail
            go_roundw
            case rel => exact ⟨k + 1, A5, c5, by omega, by go_num, by rw [HF.out]; simp, by rw [HF.out, ints_app, List.length_append]; exact hown5, below_app hown (by repeat (first | exact hbw | refine Below.alloc ?_ (by first | omega | (simp; omega)) _ | refine below_drewN' ?_ _ | refine Below.drew ?_)) hg5 (Nat.le_refl _) (by simp; omega)⟩
            case measure => simp [intOf]; omega
    · have hkn : k = l.length := by omega
      subst hkn
      go_wp2_with fail
      go_ret
      exact ⟨A', c', rfl, hown, hbw⟩
end Go.Proofs.YtapjahbflhingaaGreatDoor
/- Plain laws: the sum of best is no more than any attempt's way, than the golds together, than what a live run can reach. No program in sight. -/
namespace Go.Proofs.YtapjahbflhingaaGreatDoor
set_option linter.unusedVariables false
set_option linter.unusedSimpArgs false

theorem lv_step {ss : List Stp} {n : Nat} (hf : Fwd ss n) {s : Stp} (hs : s ∈ ss) (hv : 0 ≤ lvV ss n s.2.1.toNat) : 0 ≤ lvV ss n s.1.toNat ∧ lvV ss n s.1.toNat ≤ s.2.2 + lvV ss n s.2.1.toNat := by
  have h1 := hf s hs
  have e := lvV_eq hf s.1.toNat (by omega)
  have hm : s.2.2 + lvV ss n s.2.1.toNat ∈ cands (lvV ss n) ss s.1.toNat := by
    unfold cands
    refine List.mem_map.2 ⟨s, List.mem_filter.2 ⟨hs, ?_⟩, rfl⟩
    simp only [Bool.and_eq_true, decide_eq_true_eq]
    exact ⟨by omega, hv⟩
  rcases leastOf_spec _ (cands_nonneg (V := lvV ss n) hf s.1.toNat) with ⟨h2, _⟩ | ⟨h2, h3⟩
  · rw [h2] at hm; cases hm
  · have a := cands_nonneg (V := lvV ss n) hf s.1.toNat _ h2
    have b := h3 _ hm
    omega
theorem stS_mono (l : List Int) (s : Stp) : ∀ j k, j ≤ k → s ∈ (stS l j).2.2 → s ∈ (stS l k).2.2 := by
  intro j k hjk hs
  induction k with
  | zero => have : j = 0 := by omega
            subst this; exact hs
  | succ k ih =>
    rcases Nat.lt_or_ge j (k + 1) with h | h
    · have := ih (by omega)
      rw [stS]
      split
      · exact List.mem_append_left _ this
      · exact this
    · have : j = k + 1 := by omega
      subst this; exact hs
theorem steps_mem {atts : List Att} {i : Nat} (hi : i < atts.length) {s : Stp} (hs : s ∈ stepsOf atts[i].2) : s ∈ stepsA atts := List.mem_flatMap.2 ⟨_, List.getElem_mem hi, hs⟩
/-- The way of an attempt, as far as it goes. -/
theorem lv_way {segs : List (List UInt8)} {atts : List Att} (hok : HistOk segs atts) {i : Nat} (hi : i < atts.length) : ∀ j, j ≤ atts[i].2.length → 0 ≤ lvV (stepsA atts) segs.length (stS atts[i].2 j).1.toNat →
    0 ≤ lvV (stepsA atts) segs.length 0 ∧ lvV (stepsA atts) segs.length 0 ≤ (stS atts[i].2 j).2.1 + lvV (stepsA atts) segs.length (stS atts[i].2 j).1.toNat := by
  have hf := (stepsA_fwd hok).1
  intro j
  induction j with
  | zero => intro _ h; simp only [stS] at h ⊢; exact ⟨h, by simp⟩
  | succ j ih =>
    intro hj h
    have hlt : j < atts[i].2.length := by omega
    by_cases h0 : atts[i].2[j] = 0
    · rw [stS_no _ j hlt h0] at h ⊢; exact ih (by omega) h
    · have e := stS_yes _ j hlt h0
      have hm : ((stS atts[i].2 j).1, (j : Int) + 1, atts[i].2[j] - (stS atts[i].2 j).2.1) ∈ stepsA atts := by
        refine steps_mem hi (stS_mono _ _ (j + 1) _ (by omega) ?_)
        rw [e]; simp
      rw [e] at h ⊢
      have h1 := lv_step hf hm h
      have h2 := ih (by omega) h1.1
      simp only at h1 h2 h ⊢
      omega
theorem stS_end {n : Nat} {l : List Int} (hs : SplOk n l) (h : 0 < l.length) : (stS l l.length).1 = (l.length : Int) ∧ (stS l l.length).2.1 = lastT (0, l) := by
  obtain ⟨m, hm⟩ : ∃ m, l.length = m + 1 := ⟨l.length - 1, by omega⟩
  have hlt : m < l.length := by omega
  have h0 : l[m] ≠ 0 := by
    have := hs.fin (by omega)
    have e : l[l.length - 1]'(by omega) = l[m] := by congr 1; omega
    rwa [e] at this
  have e2 : lastT (0, l) = l[m] := by
    unfold lastT
    simp only [hm, Nat.add_sub_cancel]
    exact getD_is hlt
  rw [e2, hm, stS_yes l m hlt h0]
  exact ⟨by simp, rfl⟩
/-- What an attempt of a history can still reach is not below the sum of best. -/
theorem sum_le_reach {segs : List (List UInt8)} {atts : List Att} (hok : HistOk segs atts) {i : Nat} (hi : i < atts.length) (hl : 0 < atts[i].2.length) (hv : 0 ≤ lvV (stepsA atts) segs.length atts[i].2.length) :
    0 ≤ lvV (stepsA atts) segs.length 0 ∧ lvV (stepsA atts) segs.length 0 ≤ lastT (0, atts[i].2) + lvV (stepsA atts) segs.length atts[i].2.length := by
  have hs := hok.spl i hi
  obtain ⟨e1, e2⟩ := stS_end hs hl
  have := lv_way hok hi atts[i].2.length (Nat.le_refl _)
  rw [e1, e2, Int.toNat_natCast] at this
  exact this hv
/-- Nor is a finished attempt. -/
theorem sum_le_done {segs : List (List UInt8)} {atts : List Att} (hok : HistOk segs atts) {i : Nat} (hi : i < atts.length) (hl : atts[i].2.length = segs.length) :
    0 ≤ lvV (stepsA atts) segs.length 0 ∧ lvV (stepsA atts) segs.length 0 ≤ lastT (0, atts[i].2) := by
  have n1 := hok.n1
  have := sum_le_reach hok hi (by omega) (by rw [hl, lvV_end]; omega)
  rw [hl, lvV_end] at this
  omega
/-- A known time is a step. -/
theorem tm_step {atts : List Att} {i k : Nat} (hi : i < atts.length) (hk : k < atts[i].2.length) (ht : 0 < tmA atts[i].2 k) : ((k : Int), (k : Int) + 1, tmA atts[i].2 k) ∈ stepsA atts := by
  have h : atts[i].2.getD k 0 ≠ 0 ∧ goodA atts[i].2 k := by
    unfold tmA at ht
    split at ht
    · rename_i h; exact h
    · omega
  have e : tmA atts[i].2 k = atts[i].2.getD k 0 - pvA atts[i].2 k := by unfold tmA; rw [if_pos h]
  have hn : nxA atts[i].2 k atts[i].2.length = k := nxA_is (Nat.le_refl _) hk h.1 (fun a h1 h2 => by omega)
  have hf := (stS_from atts[i].2 k atts[i].2.length (Nat.le_refl _)).2.2.2.2
  rw [hn, if_pos ⟨h.2, hk⟩] at hf
  have hm : ((k : Int), (k : Int) + 1, atts[i].2.getD k 0 - pvA atts[i].2 k) ∈ (stS atts[i].2 atts[i].2.length).2.2.filter (fun s => decide (s.1 = (k : Int))) := by rw [hf]; simp
  rw [e]
  exact steps_mem hi (List.mem_filter.1 hm).1
theorem gold_mem {atts : List Att} {k : Nat} (h : goldA atts k ≠ 0) : goldA atts k ∈ rowA atts k := by
  unfold goldA at h ⊢
  cases hs : sorted (rowA atts k) with
  | nil => rw [hs] at h; exact absurd rfl h
  | cons x r =>
    have : x ∈ sorted (rowA atts k) := by rw [hs]; simp
    simpa using sorted_mem.1 this
theorem gold_step {atts : List Att} {k : Nat} (h : goldA atts k ≠ 0) : ((k : Int), (k : Int) + 1, goldA atts k) ∈ stepsA atts := by
  obtain ⟨a, ha, hx⟩ := List.mem_flatMap.1 (gold_mem h)
  obtain ⟨i, hi, rfl⟩ := List.mem_iff_getElem.1 ha
  split at hx
  · rename_i h1
    simp at hx
    rw [hx]
    exact tm_step hi h1.1 h1.2
  · cases hx
/-- THE GOLDS TOGETHER ARE NOT LESS. -/
theorem sum_le_golds {segs : List (List UInt8)} {atts : List Att} (hok : HistOk segs atts) (h : ∀ k, k < segs.length → goldA atts k ≠ 0) : ∀ d k, k + d = segs.length →
    0 ≤ lvV (stepsA atts) segs.length k ∧ lvV (stepsA atts) segs.length k + (goldL atts k).sum ≤ (goldL atts segs.length).sum := by
  have hf := (stepsA_fwd hok).1
  intro d
  induction d with
  | zero => intro k hk; have : k = segs.length := by omega
            subst this; rw [lvV_end]; omega
  | succ d ih =>
    intro k hk
    have h1 := ih (k + 1) (by omega)
    have h2 := lv_step hf (gold_step (h k (by omega))) (by simp only [show ((k : Int) + 1).toNat = k + 1 by omega]; exact h1.1)
    simp only [show ((k : Int) + 1).toNat = k + 1 by omega, Int.toNat_natCast] at h2
    have e : (goldL atts (k + 1)).sum = (goldL atts k).sum + goldA atts k := by rw [goldL_snoc]; simp
    omega
end Go.Proofs.YtapjahbflhingaaGreatDoor
/- Plain laws of comparisons: levels and means of rows, sums from the first on, the greatest part that is in time. No program in sight. -/
namespace Go.Proofs.YtapjahbflhingaaGreatDoor
set_option linter.unusedVariables false
set_option linter.unusedSimpArgs false

/-- The level of a part of a row, in thousandths. -/
def levA (row : List Int) (part : Nat) : Int :=
  row.getD ((row.length - 1) * part / 1000) 0 + (row.getD ((row.length - 1) * part / 1000 + 1) 0 - row.getD ((row.length - 1) * part / 1000) 0) * (((row.length - 1) * part % 1000 : Nat) : Int) / 1000
/-- A row as it is meant: sorted, of times. -/
structure RowOk (row : List Int) : Prop where
  up : ∀ i (h : i + 1 < row.length), row[i] ≤ row[i + 1]
  bd : ∀ x ∈ row, 0 < x ∧ x ≤ 864000000
  m : row.length ≤ 500
theorem RowOk.at {row : List Int} (h : RowOk row) {i : Nat} (hi : i < row.length) : 0 < row[i] ∧ row[i] ≤ 864000000 := h.bd _ (List.getElem_mem hi)
theorem lev_i {row : List Int} {part : Nat} (h0 : 0 < row.length) (hp : part ≤ 1000) : (row.length - 1) * part / 1000 < row.length := by
  have : (row.length - 1) * part ≤ (row.length - 1) * 1000 := Nat.mul_le_mul_left _ hp
  omega
theorem lev_j {row : List Int} {part : Nat} (hp : part ≤ 1000) (hr : 0 < (row.length - 1) * part % 1000) : (row.length - 1) * part / 1000 + 1 < row.length := by
  have : (row.length - 1) * part ≤ (row.length - 1) * 1000 := Nat.mul_le_mul_left _ hp
  omega
theorem levA_even {row : List Int} {part : Nat} (h0 : 0 < row.length) (hp : part ≤ 1000) (hr : (row.length - 1) * part % 1000 = 0) : levA row part = row[(row.length - 1) * part / 1000]'(lev_i h0 hp) := by
  unfold levA
  rw [hr, getD_is (lev_i h0 hp)]; simp
theorem levA_part {row : List Int} {part : Nat} (hp : part ≤ 1000) (hr : 0 < (row.length - 1) * part % 1000) :
    levA row part = row[(row.length - 1) * part / 1000]'(by have := lev_j hp hr; omega) + (row[(row.length - 1) * part / 1000 + 1]'(lev_j hp hr) - row[(row.length - 1) * part / 1000]'(by have := lev_j hp hr; omega)) * (((row.length - 1) * part % 1000 : Nat) : Int) / 1000 := by
  have := lev_j hp hr
  unfold levA
  rw [getD_is this, getD_is (by omega)]
/-- What is added for the rest: from 0 on, and less than the way to the next one. -/
theorem lev_more {row : List Int} (h : RowOk row) {i r : Nat} (hi : i + 1 < row.length) (hr : r < 1000) : 0 ≤ (row[i + 1] - row[i]) * (r : Int) ∧ (row[i + 1] - row[i]) * (r : Int) ≤ 864000000000 ∧ (row[i + 1] - row[i]) * (r : Int) / 1000 ≤ row[i + 1] - row[i] ∧ 0 ≤ (row[i + 1] - row[i]) * (r : Int) / 1000 := by
  have h1 := h.up i hi
  have h2 := h.at hi
  have h3 := h.at (show i < row.length by omega)
  generalize row[i + 1] = y at *
  generalize row[i] = x at *
  have a : 0 ≤ (y - x) * (r : Int) := Int.mul_nonneg (by omega) (by omega)
  have b : (y - x) * (r : Int) ≤ (y - x) * 1000 := Int.mul_le_mul_of_nonneg_left (by omega) (by omega)
  refine ⟨a, by omega, by omega, by omega⟩
theorem levA_bd {row : List Int} (h : RowOk row) {part : Nat} (h0 : 0 < row.length) (hp : part ≤ 1000) : 0 < levA row part ∧ levA row part ≤ 864000000 := by
  by_cases hr : (row.length - 1) * part % 1000 = 0
  · rw [levA_even h0 hp hr]; exact h.at _
  · have hr' : 0 < (row.length - 1) * part % 1000 := by omega
    rw [levA_part hp hr']
    have hj := lev_j hp hr'
    have m := lev_more h hj (Nat.mod_lt ((row.length - 1) * part) (by decide : 0 < 1000))
    have a := h.at hj
    have b := h.at (show (row.length - 1) * part / 1000 < row.length by omega)
    omega
/-- The sum of the first ones. -/
def preS (l : List Int) (k : Nat) : Int := (l.take k).sum
theorem preS_zero (l : List Int) : preS l 0 = 0 := by simp [preS]
theorem preS_next {l : List Int} {k : Nat} (hk : k < l.length) : preS l (k + 1) = preS l k + l[k] := by
  unfold preS; rw [List.take_succ_eq_append_getElem hk, List.sum_append, List.sum_singleton]
theorem preS_all (l : List Int) : preS l l.length = l.sum := by simp [preS]
theorem preS_bd {l : List Int} (h : ∀ x ∈ l, 0 ≤ x ∧ x ≤ 864000000) : ∀ k, k ≤ l.length → 0 ≤ preS l k ∧ preS l k ≤ 864000000 * k := by
  intro k
  induction k with
  | zero => intro _; rw [preS_zero]; simp
  | succ k ih =>
    intro hk
    have := ih (by omega)
    have b := h _ (List.getElem_mem (show k < l.length by omega))
    rw [preS_next (by omega)]
    omega
/-- The mean, rounded down. -/
def mnA (row : List Int) : Int := row.sum / (row.length : Int)
theorem sum_bd {l : List Int} {B : Int} (h : ∀ x ∈ l, 0 ≤ x ∧ x ≤ B) : 0 ≤ l.sum ∧ l.sum ≤ B * l.length := by
  induction l with
  | nil => simp
  | cons x l ih =>
    have a := ih (fun y hy => h y (List.mem_cons_of_mem _ hy))
    have b := h x (by simp)
    have e : B * ((l.length + 1 : Nat) : Int) = B * l.length + B := by rw [Int.natCast_add, Int.mul_add]; simp
    rw [List.sum_cons, List.length_cons, e]
    omega
theorem mnA_bd {row : List Int} (h : RowOk row) (h0 : 0 < row.length) : 0 ≤ mnA row ∧ mnA row ≤ 864000000 := by
  have b := sum_bd (l := row) (B := 864000000) (fun x hx => by have := h.bd x hx; omega)
  unfold mnA
  refine ⟨Int.ediv_nonneg b.1 (by omega), ?_⟩
  exact Int.ediv_le_of_le_mul (by omega) b.2
/-- The sums of times from the first segment on. -/
def addA (l : List Int) : List Int := (List.range l.length).map fun k => preS l (k + 1)
theorem addA_len (l : List Int) : (addA l).length = l.length := by simp [addA]
theorem addA_at (l : List Int) (k : Nat) (h : k < (addA l).length) : (addA l)[k] = preS l (k + 1) := by simp [addA]
theorem addA_last {l : List Int} (h : 0 < l.length) : (addA l)[l.length - 1]'(by rw [addA_len]; omega) = l.sum := by
  rw [addA_at, show l.length - 1 + 1 = l.length by omega, preS_all]
/-- The first so many of the sums. -/
def addK (l : List Int) (k : Nat) : List Int := (List.range k).map fun k => preS l (k + 1)
theorem addK_len (l : List Int) (k : Nat) : (addK l k).length = k := by simp [addK]
theorem addK_snoc (l : List Int) (k : Nat) : addK l (k + 1) = addK l k ++ [preS l (k + 1)] := by simp [addK, List.range_succ]
theorem addK_all (l : List Int) : addK l l.length = addA l := rfl
/-- The sums made in place: so many of them are made. -/
def sumK (l : List Int) (k : Nat) : List Int := (List.range l.length).map fun i => if i < k then preS l (i + 1) else l.getD i 0
theorem sumK_len (l : List Int) (k : Nat) : (sumK l k).length = l.length := by simp [sumK]
theorem sumK_at (l : List Int) (k i : Nat) (h : i < (sumK l k).length) : (sumK l k)[i] = if i < k then preS l (i + 1) else l.getD i 0 := by simp [sumK]
theorem sumK_one (l : List Int) : sumK l 1 = l := by
  apply List.ext_getElem
  · simp [sumK]
  · intro i h1 h2
    rw [sumK_at]
    split
    · have : i = 0 := by omega
      subst this
      rw [preS_next h2, preS_zero]; simp
    · exact getD_is h2
theorem sumK_next (l : List Int) (k : Nat) : sumK l (k + 1) = (sumK l k).set k (preS l (k + 1)) := by
  apply List.ext_getElem
  · simp [sumK]
  · intro i h1 h2
    rw [List.getElem_set, sumK_at, sumK_at]
    by_cases e : k = i
    · subst e; simp
    · rw [if_neg e]
      by_cases h3 : i < k
      · rw [if_pos h3, if_pos (by omega)]
      · rw [if_neg h3, if_neg (by omega)]
theorem sumK_all {l : List Int} {k : Nat} (hk : l.length ≤ k) : sumK l k = addA l := by
  apply List.ext_getElem
  · simp [sumK, addA]
  · intro i h1 h2
    have : i < l.length := by simpa [sumK] using h1
    rw [sumK_at, if_pos (by omega), addA_at]
theorem getD_at' {l : List Int} {k : Nat} (h : k < l.length) : l.getD k 0 = l[k] := getD_is h

/-- The values of some rows, one by one. -/
def valL (f : List Int → Int) (rows : List (List Int)) (k : Nat) : List Int := (rows.take k).map f
theorem valL_len {f : List Int → Int} {rows : List (List Int)} {k : Nat} (hk : k ≤ rows.length) : (valL f rows k).length = k := by simp [valL]; omega
theorem valL_next {f : List Int → Int} {rows : List (List Int)} {k : Nat} (hk : k < rows.length) : valL f rows (k + 1) = valL f rows k ++ [f rows[k]] := by
  unfold valL; rw [List.take_succ_eq_append_getElem hk, List.map_append]; rfl
theorem valL_all (f : List Int → Int) (rows : List (List Int)) : valL f rows rows.length = rows.map f := by simp [valL]
/-- The greatest part below one that is in time. -/
def evF (rows : List (List Int)) (most : Int) : Nat → Option Nat
  | 0 => none
  | p + 1 => if (rows.map fun r => levA r p).sum ≤ most then some p else evF rows most p
theorem evF_yes {rows : List (List Int)} {most : Int} {p : Nat} (h : (rows.map fun r => levA r p).sum ≤ most) : evF rows most (p + 1) = some p := by simp [evF, h]
theorem evF_no {rows : List (List Int)} {most : Int} {p : Nat} (h : ¬ (rows.map fun r => levA r p).sum ≤ most) : evF rows most (p + 1) = evF rows most p := by simp [evF, h]
def evL (rows : List (List Int)) (o : Option Nat) : List Int := match o with | some p => rows.map fun r => levA r p | none => []
end Go.Proofs.YtapjahbflhingaaGreatDoor
