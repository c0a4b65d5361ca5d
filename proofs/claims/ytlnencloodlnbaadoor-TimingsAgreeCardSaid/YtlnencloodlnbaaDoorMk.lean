/- Marks of a video: plain mathematics; no program of Go in sight. A mark is its frame and its kind. -/
import Derived.Test.YtlnencloodlnbaaDoorEvP
namespace Go.Proofs.YtlnencloodlnbaaDoor

abbrev Mk := Int × Int
theorem begK_bd' {v : List St} (h : Good v) (f : Int) : ∀ k, k ≤ v.length → begK (multK v) v f k ≤ fsum (v.take k) * multK v := by
  intro k
  induction k with
  | zero => intro _; simp [begK, fsum]
  | succ k ih =>
    intro hk
    have hlt : k < v.length := by omega
    have i := ih (by omega)
    have u := used_bd v h.nonneg f k hlt
    have l := h.long v[k] (List.getElem_mem _)
    rw [begK, getD_at v k hlt, fsum_take v k hlt, Int.add_mul]
    have a2 : usedM v f k * longM (multK v) v[k] ≤ v[k].1 * multK v := Int.mul_le_mul u.2 l.2 (by omega) (by omega)
    omega
theorem begM_bd' {v : List St} (h : Good v) (f : Int) : 0 ≤ begM v f ∧ begM v f ≤ 10000000 * multK v := by
  have h0 := (begK_bd h f v.length (Nat.le_refl _)).1
  have h1 := begK_bd' h f v.length (Nat.le_refl _)
  rw [List.take_length] at h1
  have h2 := Int.mul_le_mul_of_nonneg_right h.sum (show 0 ≤ multK v by have := h.mbd; omega)
  unfold begM
  omega
/-- Milliseconds, rounded. -/
def msM (m n : Int) : Int := n / m * 1000 + (2000 * (n % m) + m) / (2 * m)
/-- What film.times has gathered: since when time counts, what has counted, the times. -/
def tstep (v : List St) (s : Int × Int × List Int) (x : Mk) : Int × Int × List Int :=
  if x.2 = 1 ∨ x.2 = 4 then (begM v x.1, s.2.1, s.2.2) else if x.2 = 3 then (s.1, s.2.1 + (begM v x.1 - s.1), s.2.2) else (s.1, s.2.1, s.2.2 ++ [msM (multK v) (s.2.1 + begM v x.1 - s.1)])
def tS (v : List St) (l : List Mk) : Int × Int × List Int := l.foldl (tstep v) (0, 0, [])
theorem tS_take (v : List St) (l : List Mk) (k : Nat) (h : k < l.length) : tS v (l.take (k + 1)) = tstep v (tS v (l.take k)) l[k] := by
  unfold tS; rw [List.take_succ_eq_append_getElem h, List.foldl_append]; rfl
theorem tstep_on (v : List St) (s : Int × Int × List Int) (x : Mk) (h : x.2 = 1 ∨ x.2 = 4) : tstep v s x = (begM v x.1, s.2.1, s.2.2) := by simp [tstep, h]
theorem tstep_off (v : List St) (s : Int × Int × List Int) (x : Mk) (h : x.2 = 3) : tstep v s x = (s.1, s.2.1 + (begM v x.1 - s.1), s.2.2) := by simp [tstep, h]
theorem tstep_out (v : List St) (s : Int × Int × List Int) (x : Mk) (h : ¬ (x.2 = 1 ∨ x.2 = 4)) (h' : ¬ x.2 = 3) : tstep v s x = (s.1, s.2.1, s.2.2 ++ [msM (multK v) (s.2.1 + begM v x.1 - s.1)]) := by simp only [tstep, h, h', if_false]
def Rises (l : List Mk) : Prop := ∀ k, (h : k + 1 < l.length) → l[k].1 ≤ l[k + 1].1
theorem tS_bd {v : List St} (hg : Good v) (l : List Mk) (hl : Rises l) : ∀ k, k ≤ l.length → 0 ≤ (tS v (l.take k)).1 ∧ (∀ h : k < l.length, (tS v (l.take k)).1 ≤ begM v l[k].1) ∧ 0 ≤ (tS v (l.take k)).2.1 ∧ (tS v (l.take k)).2.1 ≤ k * (10000000 * multK v) ∧ (tS v (l.take k)).2.2.length ≤ k := by
  intro k
  induction k with
  | zero => intro _; simp [tS]; intro _; exact (begM_bd' hg _).1
  | succ k ih =>
    intro hk
    obtain ⟨a0, a1, b0, b1, c1⟩ := ih (by omega)
    have a2 := a1 (by omega)
    have bb := begM_bd' hg l[k].1
    have hm : ∀ h : k + 1 < l.length, begM v l[k].1 ≤ begM v l[k + 1].1 := fun h => begM_mono hg _ _ (hl k h)
    rw [tS_take v l k (by omega)]
    have em : ((k + 1 : Nat) : Int) * (10000000 * multK v) = (k : Int) * (10000000 * multK v) + 10000000 * multK v := by rw [Int.natCast_add, Int.add_mul]; simp
    generalize hT : (k : Int) * (10000000 * multK v) = T at *
    rw [em]
    by_cases h1 : l[k].2 = 1 ∨ l[k].2 = 4
    · rw [tstep_on _ _ _ h1]
      exact ⟨by simp; omega, fun h => by simp; exact hm h, by simp; omega, by simp; omega, by simp; omega⟩
    · by_cases h3 : l[k].2 = 3
      · rw [tstep_off _ _ _ h3]
        exact ⟨by simp; omega, fun h => by simp; have := hm h; omega, by simp; omega, by simp; omega, by simp; omega⟩
      · rw [tstep_out _ _ _ h1 h3]
        exact ⟨by simp; omega, fun h => by simp; have := hm h; omega, by simp; omega, by simp; omega, by simp; omega⟩
end Go.Proofs.YtlnencloodlnbaaDoor
