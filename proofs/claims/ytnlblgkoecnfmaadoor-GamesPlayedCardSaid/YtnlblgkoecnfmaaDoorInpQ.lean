/- Plain mathematics of cuts, splices and differences of inputs. -/
import Derived.Test.YtnlblgkoecnfmaaDoorInpP
namespace Go.Proofs.YtnlblgkoecnfmaaDoor
set_option linter.unusedVariables false
set_option linter.unusedSimpArgs false

/-- The first error that is one. -/
def firstE : List Int → Int
  | [] => 0
  | e :: r => if e = 0 then firstE r else e
theorem firstE_hit (l : List Int) (k : Nat) (hk : k < l.length) (h0 : ∀ y ∈ l.take k, y = 0) (h : l[k] ≠ 0) : firstE l = l[k] := by
  induction l generalizing k with
  | nil => simp at hk
  | cons e r ih =>
    cases k with
    | zero => simp at h; simp [firstE, h]
    | succ k =>
      have he : e = 0 := h0 e (by simp)
      simp only [firstE, he, if_true, List.getElem_cons_succ] at *
      exact ih k (by simpa using hk) (fun y hy => h0 y (by simp [hy])) h
theorem firstE_none (l : List Int) (h0 : ∀ y ∈ l, y = 0) : firstE l = 0 := by
  induction l with
  | nil => rfl
  | cons e r ih =>
    have he : e = 0 := h0 e (by simp)
    simp only [firstE, he, if_true]
    exact ih fun y hy => h0 y (by simp [hy])
theorem firstE_two (a b : Int) : firstE [a, b] = if a = 0 then b else a := by
  unfold firstE
  by_cases h : a = 0
  · by_cases h' : b = 0 <;> simp [h, h', firstE]
  · simp [h]

/-- What is left of frames when they are cut. -/
def cutL (xs : List Int) (from_ to_ : Nat) : List Int := (xs.take to_).drop from_
/-- How many frames of a piece that begins at `at_` and is m long lie between. -/
def clipN (at_ m from_ to_ : Int) : Int := min (at_ + m) to_ - max at_ from_
theorem cutL_snoc (xs : List Int) (m : Nat) (h : Int) (f t : Nat) : cutL (xs ++ List.replicate m h) f t = cutL xs f t ++ List.replicate (clipN xs.length m f t).toNat h := by
  unfold cutL clipN
  rw [List.take_append, List.drop_append, List.take_replicate, List.drop_replicate, List.length_take]
  congr 2
  omega
def clipM (ps : List (Int × Int)) (f t : Int) : List (Int × Int) → Int → List (Int × Int)
  | [], _ => ps
  | p :: r, at_ => clipM (if 0 < clipN at_ p.2 f t then ps ++ [(p.1, clipN at_ p.2 f t)] else ps) f t r (at_ + p.2)
/-- The pieces between, up to piece k. -/
def clips (ps : List (Int × Int)) (f t : Int) (k : Nat) : List (Int × Int) := (List.range k).foldl (fun o i => if 0 < clipN (psum (ps.take i)) (ps.getD i (0, 0)).2 f t then o ++ [((ps.getD i (0, 0)).1, clipN (psum (ps.take i)) (ps.getD i (0, 0)).2 f t)] else o) []
theorem clips_succ (ps : List (Int × Int)) (f t : Int) (k : Nat) (hk : k < ps.length) : clips ps f t (k + 1) = if 0 < clipN (psum (ps.take k)) ps[k].2 f t then clips ps f t k ++ [(ps[k].1, clipN (psum (ps.take k)) ps[k].2 f t)] else clips ps f t k := by
  unfold clips
  rw [List.range_succ, List.foldl_append]
  simp only [List.foldl_cons, List.foldl_nil, List.getD_eq_getElem?_getD, List.getElem?_eq_getElem hk, Option.getD_some]
theorem clips_unf (ps : List (Int × Int)) (hb : ∀ p ∈ ps, 0 ≤ p.2) (f t : Nat) (k : Nat) (hk : k ≤ ps.length) : unf (clips ps f t k) = cutL (unf (ps.take k)) f t := by
  induction k with
  | zero => simp [clips, unf, cutL]
  | succ k ih =>
    have hlt : k < ps.length := by omega
    have hu := unf_len (ps.take k) (fun p hp => hb p (List.mem_of_mem_take hp))
    have hp := hb ps[k] (List.getElem_mem _)
    rw [clips_succ ps f t k hlt, unf_take ps k hlt, cutL_snoc, hu, Int.toNat_of_nonneg hp, ← ih (by omega)]
    by_cases h : 0 < clipN (psum (ps.take k)) ps[k].2 f t
    · rw [if_pos h, unf_app]; simp [unf]
    · rw [if_neg h]
      have : (clipN (psum (ps.take k)) ps[k].2 f t).toNat = 0 := by omega
      rw [this]; simp
theorem clips_mem (ps : List (Int × Int)) (f t : Int) (k : Nat) (hk : k ≤ ps.length) : ∀ p ∈ clips ps f t k, 0 ≤ p.2 := by
  induction k with
  | zero => intro p hp; simp [clips] at hp
  | succ k ih =>
    rw [clips_succ ps f t k (by omega)]
    intro p hp
    by_cases h : 0 < clipN (psum (ps.take k)) ps[k].2 f t
    · rw [if_pos h] at hp
      rcases List.mem_append.1 hp with h1 | h1
      · exact ih (by omega) p h1
      · simp at h1; subst h1; simp; omega
    · rw [if_neg h] at hp; exact ih (by omega) p hp
theorem clips_len (ps : List (Int × Int)) (f t : Int) (k : Nat) (hk : k ≤ ps.length) : (clips ps f t k).length ≤ k := by
  induction k with
  | zero => simp [clips]
  | succ k ih =>
    have := ih (by omega)
    rw [clips_succ ps f t k (by omega)]
    split <;> simp <;> omega
theorem cutL_len (xs : List Int) (f t : Nat) : (cutL xs f t).length ≤ xs.length := by simp [cutL]; omega

/-- Where two rows of frames differ first; -1: nowhere. -/
def diffM (xs ys : List Int) : Int := match (List.range (max xs.length ys.length)).find? (fun i : Nat => heldL xs (i : Int) != heldL ys (i : Int)) with
  | some i => (i : Int)
  | none => -1
theorem diffM_hit (xs ys : List Int) (k : Nat) (hk : k < max xs.length ys.length) (h0 : ∀ i : Nat, i < k → heldL xs (i : Int) = heldL ys (i : Int)) (h : heldL xs (k : Int) ≠ heldL ys (k : Int)) : diffM xs ys = k := by
  unfold diffM
  have : (List.range (max xs.length ys.length)).find? (fun i : Nat => heldL xs (i : Int) != heldL ys (i : Int)) = some k := by
    rw [List.find?_range_eq_some]
    refine ⟨by simpa using h, by simpa using hk, fun j hj => ?_⟩
    simp [h0 j hj]
  rw [this]
theorem diffM_none (xs ys : List Int) (h0 : ∀ i : Nat, i < max xs.length ys.length → heldL xs (i : Int) = heldL ys (i : Int)) : diffM xs ys = -1 := by
  unfold diffM
  have : (List.range (max xs.length ys.length)).find? (fun i : Nat => heldL xs (i : Int) != heldL ys (i : Int)) = none := by
    rw [List.find?_range_eq_none]
    intro i hi
    simp [h0 i hi]
  rw [this]
end Go.Proofs.YtnlblgkoecnfmaaDoor
