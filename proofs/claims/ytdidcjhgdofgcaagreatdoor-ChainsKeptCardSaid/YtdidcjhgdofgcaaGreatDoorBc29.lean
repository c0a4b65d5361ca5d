/- Texts of this seat, laid together: Hx. -/
import Derived.Test.YtdidcjhgdofgcaaGreatDoorBc17
import Derived.Test.YtdidcjhgdofgcaaGreatDoorBc19
/- Plain laws: what is written of a history. -/
namespace Go.Proofs.YtdidcjhgdofgcaaGreatDoor
set_option linter.unusedVariables false
set_option linter.unusedSimpArgs false
open Go.RowKit Go.Sort

theorem nDigits_le : ∀ (k u : Nat), u < 10 ^ k → 1 ≤ k → Lib.nDigits u ≤ k
  | 0, _, _, h => by omega
  | k + 1, u, hu, _ => by
    by_cases hu10 : u < 10
    · rw [Lib.nDigits_small hu10]; omega
    · rw [Lib.nDigits_big hu10]
      have : u / 10 < 10 ^ k := by rw [Nat.pow_succ] at hu; omega
      cases k with
      | zero => simp at this; omega
      | succ k => have := nDigits_le (k + 1) (u / 10) this (by omega); omega
theorem itoa_len (n : Int) (h0 : -1000000000000000000 < n) (h1 : n < 1000000000000000000) : (Lib.itoa n).length ≤ 19 := by
  have hp : (10 : Nat) ^ 18 = 1000000000000000000 := by decide
  unfold Lib.itoa
  split
  · have := nDigits_le 18 n.natAbs (by rw [hp]; omega) (by decide)
    rw [List.length_cons, Lib.decDigits_length]; omega
  · have := nDigits_le 18 n.toNat (by rw [hp]; omega) (by decide)
    rw [Lib.decDigits_length]; omega

/-- A split as it is written. -/
def spT (n : Int) : List UInt8 := if n = 0 then [45] else Lib.itoa n
def segW : List UInt8 := [115, 101, 103, 109, 101, 110, 116, 115]
def attW : List UInt8 := [97, 116, 116, 101, 109, 112, 116]
/-- So many splits as they are written. -/
def spsT (l : List Int) : Nat → List UInt8
  | 0 => []
  | k + 1 => spsT l k ++ (32 :: spT (l.getD k 0))
/-- An attempt as it is written. -/
def attT (a : Att) : List UInt8 := (attW ++ [32]) ++ Lib.itoa a.1 ++ spsT a.2 a.2.length ++ [10]
def attsT (atts : List Att) : Nat → List UInt8
  | 0 => []
  | k + 1 => attsT atts k ++ attT (atts.getD k (0, []))
def headT (segs : List (List UInt8)) : List UInt8 := (segW ++ [32]) ++ Lib.join segs [32] ++ [10]
/-- A history as it is written. -/
def histT (segs : List (List UInt8)) (atts : List Att) : List UInt8 := headT segs ++ attsT atts atts.length
theorem spT_len (n : Int) (h0 : -1000000000000000000 < n) (h1 : n < 1000000000000000000) : (spT n).length ≤ 19 := by
  unfold spT
  split
  · simp
  · exact itoa_len n h0 h1
theorem spsT_len (l : List Int) (hl : ∀ i (h : i < l.length), 0 ≤ l[i] ∧ l[i] ≤ 864000000) : ∀ k, (spsT l k).length ≤ k * 20
  | 0 => by simp [spsT]
  | k + 1 => by
    have ih := spsT_len l hl k
    have : (spT (l.getD k 0)).length ≤ 19 := by
      refine spT_len _ ?_ ?_
      all_goals
        rcases Nat.lt_or_ge k l.length with h | h
        · rw [List.getD_eq_getElem?_getD, List.getElem?_eq_getElem h]; have := hl k h; simp only [Option.getD_some]; omega
        · rw [List.getD_eq_getElem?_getD, List.getElem?_eq_none h]; simp
    simp only [spsT, List.length_append, List.length_cons]
    omega
theorem spsT_next {l : List Int} {k : Nat} (h : k < l.length) : spsT l (k + 1) = spsT l k ++ (32 :: spT l[k]) := by
  rw [spsT, List.getD_eq_getElem?_getD, List.getElem?_eq_getElem h]; rfl
theorem attsT_next {atts : List Att} {k : Nat} (h : k < atts.length) : attsT atts (k + 1) = attsT atts k ++ attT atts[k] := by
  rw [attsT, List.getD_eq_getElem?_getD, List.getElem?_eq_getElem h]; rfl
theorem attT_len {many : Nat} {a : Att} (h : SplOk many a.2) (hm : many ≤ 60) (hn : 1 ≤ a.1 ∧ a.1 ≤ 1000000) : (attT a).length ≤ 1300 := by
  have h1 := spsT_len a.2 h.bd a.2.length
  have h2 := itoa_len a.1 (by omega) (by omega)
  have h3 := h.len
  unfold attT attW
  simp only [List.length_append, List.length_cons, List.length_nil]
  omega
theorem attsT_len {segs : List (List UInt8)} {atts : List Att} (h : HistOk segs atts) : ∀ k, k ≤ atts.length → (attsT atts k).length ≤ k * 1300
  | 0, _ => by simp [attsT]
  | k + 1, hk => by
    have ih := attsT_len h k (by omega)
    have := attT_len (h.spl k hk) h.n2 (h.no k hk)
    rw [attsT_next hk, List.length_append]; omega
theorem keyB_le {s : List UInt8} (h : keyB s = true) : s.length ≤ 40 ∧ 0 < s.length := by
  unfold keyB at h
  simp only [Bool.and_eq_true, decide_eq_true_eq] at h
  omega
theorem joinTail_len (sep : List UInt8) (segs : List (List UInt8)) (h : ∀ s ∈ segs, s.length ≤ 40) : (Lib.joinTail sep segs).length ≤ segs.length * (40 + sep.length) := by
  rw [Lib.joinTail_length]
  have : Lib.lens segs ≤ segs.length * 40 := by
    induction segs with
    | nil => simp [Lib.lens]
    | cons s segs ih =>
      have h1 := h s (by simp)
      have h2 := ih (fun x hx => h x (by simp [hx]))
      simp only [Lib.lens, List.map_cons, List.sum_cons, List.length_cons] at *
      omega
  rw [Nat.mul_add, Nat.mul_comm sep.length]; omega
theorem join_le (segs : List (List UInt8)) (h : ∀ s ∈ segs, s.length ≤ 40) : (Lib.join segs [32]).length ≤ segs.length * 41 := by
  cases segs with
  | nil => simp [Lib.join_nil]
  | cons s segs =>
    rw [Lib.join_cons, List.length_append]
    have h1 := h s (by simp)
    have h2 := joinTail_len [32] segs (fun x hx => h x (by simp [hx]))
    simp only [List.length_cons, List.length_nil] at *
    omega
theorem headT_len {segs : List (List UInt8)} {atts : List Att} (h : HistOk segs atts) : (headT segs).length ≤ 2600 := by
  have h1 := join_le segs (fun s hs => by
    obtain ⟨i, hi, rfl⟩ := List.mem_iff_getElem.1 hs
    exact (keyB_le (h.key i hi)).1)
  have h2 := h.n2
  unfold headT segW
  simp only [List.length_append, List.length_cons, List.length_nil]
  omega
end Go.Proofs.YtdidcjhgdofgcaaGreatDoor
