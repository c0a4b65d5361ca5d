/- Which frame is seen at a time: plain mathematics; no program of Go in sight. -/
import Derived.Test.YtlnencloodlnbaaDoorEv
namespace Go.Proofs.YtlnencloodlnbaaDoor

theorem getD_at (v : List St) (k : Nat) (hk : k < v.length) : v.getD k (0, 1, 1) = v[k] := by rw [List.getD_eq_getElem?_getD, List.getElem?_eq_getElem hk]; rfl
theorem used_mono (v : List St) (f f' : Int) (h : f ≤ f') (k : Nat) : usedM v f k ≤ usedM v f' k := by unfold usedM; omega
theorem begK_mono {v : List St} (hg : Good v) (f f' : Int) (h : f ≤ f') : ∀ k, k ≤ v.length → begK (multK v) v f k ≤ begK (multK v) v f' k := by
  intro k
  induction k with
  | zero => intro _; simp [begK]
  | succ k ih =>
    intro hk
    have i := ih (by omega)
    have u := used_mono v f f' h k
    have l := hg.long v[k] (List.getElem_mem _)
    rw [begK, begK, getD_at v k (by omega)]
    have := Int.mul_le_mul_of_nonneg_right u (show 0 ≤ longM (multK v) v[k] by omega)
    omega
theorem begM_mono {v : List St} (hg : Good v) (f f' : Int) (h : f ≤ f') : begM v f ≤ begM v f' := begK_mono hg f f' h _ (Nat.le_refl _)
/-- How long the first k stretches are. -/
def fullK (v : List St) : Nat → Int
  | 0 => 0
  | k + 1 => fullK v k + (v.getD k (0, 1, 1)).1 * longM (multK v) (v.getD k (0, 1, 1))
theorem fsum_le_take (v : List St) (hp : ∀ s ∈ v, 0 ≤ s.1) (i k : Nat) (h : i ≤ k) : fsum (v.take i) ≤ fsum (v.take k) := by
  have := (fsum_take_le (v.take k) i fun s hs => hp s (List.mem_of_mem_take hs)).2
  rwa [List.take_take, Nat.min_eq_left h] at this
theorem beg_lo {v : List St} (hg : Good v) (f : Int) (k : Nat) (hk : k ≤ v.length) (hf : fsum (v.take k) ≤ f) : ∀ i, i ≤ k → begK (multK v) v f i = fullK v i := by
  intro i
  induction i with
  | zero => intro _; rfl
  | succ i ih =>
    intro hi
    have h1 := fsum_le_take v hg.nonneg (i + 1) k hi
    have h2 := fsum_take v i (by omega)
    have h3 := hg.nonneg v[i] (List.getElem_mem _)
    have : usedM v f i = v[i].1 := by
      unfold usedM
      rw [getD_at v i (by omega)]
      omega
    rw [begK, fullK, ih (by omega), this, getD_at v i (by omega)]
theorem beg_hi {v : List St} (hg : Good v) (f : Int) (k : Nat) (hf : f ≤ fsum (v.take k)) : ∀ n, k + n ≤ v.length → begK (multK v) v f (k + n) = begK (multK v) v f k := by
  intro n
  induction n with
  | zero => intro _; rfl
  | succ n ih =>
    intro hn
    have h1 := fsum_le_take v hg.nonneg k (k + n) (by omega)
    have h3 := hg.nonneg v[k + n] (List.getElem_mem _)
    have : usedM v f (k + n) = 0 := by
      unfold usedM
      rw [getD_at v (k + n) (by omega)]
      omega
    rw [← Nat.add_assoc, begK, ih (by omega), this]
    simp
theorem begM_at {v : List St} (hg : Good v) (k : Nat) (hk : k < v.length) (j : Int) (h0 : 0 ≤ j) (h1 : j ≤ v[k].1) : begM v (fsum (v.take k) + j) = fullK v k + j * longM (multK v) v[k] := by
  have e := fsum_take v k hk
  have h := beg_hi hg (fsum (v.take k) + j) (k + 1) (by omega) (v.length - (k + 1)) (by omega)
  rw [show k + 1 + (v.length - (k + 1)) = v.length by omega] at h
  have hu : usedM v (fsum (v.take k) + j) k = j := by
    unfold usedM
    rw [getD_at v k hk]
    omega
  unfold begM
  rw [h, begK, beg_lo hg _ k (by omega) (by omega) k (Nat.le_refl _), hu, getD_at v k hk]
theorem begM_end {v : List St} (hg : Good v) : begM v (fsum v) = fullK v v.length := by
  have := beg_lo hg (fsum v) v.length (Nat.le_refl _) (by rw [List.take_length]; omega) v.length (Nat.le_refl _)
  exact this
theorem begM_zero {v : List St} (hg : Good v) : begM v 0 = 0 := by
  have h := beg_hi hg 0 0 (by simp [fsum]) v.length (by omega)
  rw [Nat.zero_add] at h
  unfold begM
  rw [h]; rfl

/-- The frame that is seen when so many parts are gone; -1: the video has ended. -/
def Seen (v : List St) (L r : Int) : Prop := (r = -1 ∧ begM v (fsum v) ≤ L) ∨ (0 ≤ r ∧ r < fsum v ∧ begM v r ≤ L ∧ L < begM v (r + 1))
theorem Seen.one {v : List St} (hg : Good v) {L r r' : Int} (h : Seen v L r) (h' : Seen v L r') : r = r' := by
  rcases h with ⟨rfl, h1⟩ | ⟨a1, a2, a3, a4⟩
  · rcases h' with ⟨rfl, h2⟩ | ⟨b1, b2, b3, b4⟩
    · rfl
    · have := begM_mono hg (r' + 1) (fsum v) (by omega); omega
  · rcases h' with ⟨rfl, h2⟩ | ⟨b1, b2, b3, b4⟩
    · have := begM_mono hg (r + 1) (fsum v) (by omega); omega
    · rcases Int.lt_trichotomy r r' with h | h | h
      · have := begM_mono hg (r + 1) r' (by omega); omega
      · exact h
      · have := begM_mono hg (r' + 1) r (by omega); omega
open Classical in
noncomputable def seenR (v : List St) (L : Int) : Int := if h : ∃ r, Seen v L r then h.choose else -1
theorem Seen.eq {v : List St} (hg : Good v) {L r : Int} (h : Seen v L r) : seenR v L = r := by
  have hx : ∃ r, Seen v L r := ⟨r, h⟩
  unfold seenR
  rw [dif_pos hx]
  exact Seen.one hg hx.choose_spec h
def seenL (v : List St) (time : Int) : Int := time * multK v / 1000
theorem seenL_iff (v : List St) (time n : Int) : n ≤ seenL v time ↔ 1000 * n ≤ time * multK v := by
  unfold seenL
  rw [Int.le_ediv_iff_mul_le (by omega), Int.mul_comm n 1000]
theorem seen_in {v : List St} (hg : Good v) (k : Nat) (hk : k < v.length) (L : Int) (h0 : fullK v k ≤ L) (h1 : L - fullK v k < v[k].1 * longM (multK v) v[k]) : Seen v L (fsum (v.take k) + (L - fullK v k) / longM (multK v) v[k]) := by
  have l := hg.long v[k] (List.getElem_mem _)
  generalize hD : L - fullK v k = D at *
  generalize hl : longM (multK v) v[k] = w at *
  have q0 : 0 ≤ D / w := Int.ediv_nonneg (by omega) (by omega)
  have q1 : D / w < v[k].1 := by
    rw [Int.ediv_lt_iff_lt_mul (by omega)]; exact h1
  have e1 := begM_at hg k hk (D / w) q0 (by omega)
  have e2 := begM_at hg k hk (D / w + 1) (by omega) (by omega)
  have s1 := fsum_take v k hk
  have s2 := fsum_take_le v (k + 1) hg.nonneg
  have s3 := fsum_take_le v k hg.nonneg
  have d1 := Int.ediv_mul_le D (show w ≠ 0 by omega)
  have d2 := Int.lt_ediv_add_one_mul_self D (show 0 < w by omega)
  rw [hl] at e1 e2
  refine .inr ⟨by omega, by omega, by omega, ?_⟩
  rw [Int.add_assoc, e2]
  omega
theorem seen_past {v : List St} (hg : Good v) (L : Int) (h : fullK v v.length ≤ L) : Seen v L (-1) := .inl ⟨rfl, by rw [begM_end hg]; exact h⟩
theorem fullK_bd {v : List St} (hg : Good v) (k : Nat) (hk : k ≤ v.length) : 0 ≤ fullK v k ∧ fullK v k ≤ 1000000000000000 := by
  have h1 := beg_lo hg (fsum v) k hk (by have := fsum_take_le v k hg.nonneg; omega) k (Nat.le_refl _)
  have h2 := begK_bd hg (fsum v) k hk
  have h3 := fsum_take_le v k hg.nonneg
  have h4 := hg.sum
  omega
theorem fullK_next (v : List St) (k : Nat) (hk : k < v.length) : fullK v (k + 1) = fullK v k + v[k].1 * longM (multK v) v[k] := by rw [fullK, getD_at v k hk]
theorem later_law (n m time : Int) (hm : 1 ≤ m) : (n / m ≠ time / 1000 → (decide (time / 1000 < n / m) = decide (time * m < 1000 * n))) ∧ (n / m = time / 1000 → (decide (time % 1000 * m < n % m * 1000) = decide (time * m < 1000 * n))) := by
  have e1 := Int.mul_ediv_add_emod n m
  have e2 := Int.mul_ediv_add_emod time 1000
  have r1 := Int.emod_nonneg n (show m ≠ 0 by omega)
  have r2 := Int.emod_lt_of_pos n (show 0 < m by omega)
  have u1 := Int.emod_nonneg time (show (1000 : Int) ≠ 0 by omega)
  have u2 := Int.emod_lt_of_pos time (show (0 : Int) < 1000 by omega)
  generalize n / m = q at *
  generalize n % m = r at *
  generalize time / 1000 = s at *
  generalize time % 1000 = u at *
  have a1 : 0 ≤ u * m := Int.mul_nonneg u1 (by omega)
  have a2 : u * m ≤ 999 * m := Int.mul_le_mul_of_nonneg_right (by omega) (by omega)
  have e3 : time * m = 1000 * (m * s) + u * m := by rw [← e2, Int.add_mul, Int.mul_assoc, Int.mul_comm s m]
  refine ⟨fun h => ?_, fun h => ?_⟩
  · rw [e3, ← e1, decide_eq_decide]
    rcases Int.lt_or_lt_of_ne h with h | h
    · have b := Int.mul_le_mul_of_nonneg_left (show q + 1 ≤ s by omega) (show 0 ≤ m by omega)
      rw [Int.mul_add] at b
      constructor <;> intro _ <;> omega
    · have b := Int.mul_le_mul_of_nonneg_left (show s + 1 ≤ q by omega) (show 0 ≤ m by omega)
      rw [Int.mul_add] at b
      constructor <;> intro _ <;> omega
  · subst h
    rw [e3, ← e1, decide_eq_decide]
    constructor <;> intro _ <;> omega
/-- The first test of begun follows from the second. -/
theorem begun_first (n m time : Int) (hm : 1 ≤ m) (_ : 0 ≤ n) (h : 1000 * n ≤ time * m) : n / m * 1000 + n % m * 1000 / m ≤ time := by
  have e1 := Int.mul_ediv_add_emod n m
  have : n / m * 1000 + n % m * 1000 / m = (1000 * n) / m := by
    conv => rhs; rw [← e1]
    rw [show 1000 * (m * (n / m) + n % m) = n % m * 1000 + m * (n / m * 1000) by
      rw [Int.mul_add, Int.mul_comm 1000 (n % m), Int.add_comm, Int.mul_left_comm, Int.mul_comm 1000 (n / m)]]
    rw [Int.add_mul_ediv_left _ _ (by omega)]
    omega
  rw [this]
  have := Int.ediv_le_ediv (show 0 < m by omega) h
  rwa [Int.mul_ediv_cancel _ (by omega)] at this
end Go.Proofs.YtlnencloodlnbaaDoor
