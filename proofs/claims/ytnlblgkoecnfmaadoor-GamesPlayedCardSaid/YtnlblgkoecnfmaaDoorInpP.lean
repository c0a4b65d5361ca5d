/- More plain mathematics of inputs: what is held in a frame, how a button is held and how often it is pressed. -/
import Derived.Test.YtnlblgkoecnfmaaDoorInp
namespace Go.Proofs.YtnlblgkoecnfmaaDoor
set_option linter.unusedVariables false
set_option linter.unusedSimpArgs false

/-- What is held in a frame; 0 outside. -/
def heldL (xs : List Int) (f : Int) : Int := if f < 0 ∨ (xs.length : Int) ≤ f then 0 else xs.getD f.toNat 0
theorem heldL_out (xs : List Int) (f : Int) (h : f < 0 ∨ (xs.length : Int) ≤ f) : heldL xs f = 0 := by simp only [heldL, h, if_true]
theorem heldL_at (xs : List Int) (k : Nat) (h : k < xs.length) : heldL xs (k : Int) = xs[k] := by
  have : ¬ ((k : Int) < 0 ∨ (xs.length : Int) ≤ k) := by omega
  simp only [heldL, this, if_false, Int.toNat_natCast, List.getD_eq_getElem?_getD, List.getElem?_eq_getElem h, Option.getD_some]
theorem heldL_unf (ps : List (Int × Int)) (hb : ∀ p ∈ ps, 0 ≤ p.2) (k : Nat) (hk : k < ps.length) (f : Int) (h1 : psum (ps.take k) ≤ f) (h2 : f < psum (ps.take k) + ps[k].2) : heldL (unf ps) f = ps[k].1 := by
  have h0 := (psum_take_le ps k hb).1
  have hu := unf_len (ps.take k) (fun p hp => hb p (List.mem_of_mem_take hp))
  have hd : unf ps = unf (ps.take k) ++ (List.replicate ps[k].2.toNat ps[k].1 ++ unf (ps.drop (k + 1))) := by
    rw [← List.append_assoc, ← unf_take ps k hk, ← unf_app, List.take_append_drop]
  obtain ⟨n, rfl⟩ := Int.eq_ofNat_of_zero_le (show 0 ≤ f by omega)
  have hlt : n < (unf ps).length := by rw [hd]; simp; omega
  rw [heldL_at _ _ hlt]
  have hlt' : n < (unf (ps.take k) ++ (List.replicate ps[k].2.toNat ps[k].1 ++ unf (ps.drop (k + 1)))).length := by rw [← hd]; exact hlt
  have : (unf ps)[n] = (unf (ps.take k) ++ (List.replicate ps[k].2.toNat ps[k].1 ++ unf (ps.drop (k + 1))))[n] := by congr 1
  rw [this, List.getElem_append_right (by omega), List.getElem_append_left (by simp; omega)]
  simp

/-- What Tidy, Frames, HeldAt and Presses hand back. -/
def tidyR (ps : List (Int × Int)) : List (Int × Int) := if inFault ps = 0 then foldM (unf ps) else []
def framesR (ps : List (Int × Int)) : Int := if inFault ps = 0 then ((unf ps).length : Int) else 0
theorem tidyR_ok {ps : List (Int × Int)} (h : inFault ps = 0) : tidyR ps = foldM (unf ps) := by simp [tidyR, h]
theorem tidyR_bad {ps : List (Int × Int)} (h : ¬ inFault ps = 0) : tidyR ps = [] := by simp [tidyR, h]
theorem framesR_ok {ps : List (Int × Int)} (h : inFault ps = 0) : framesR ps = ((unf ps).length : Int) := by simp [framesR, h]
theorem framesR_bad {ps : List (Int × Int)} (h : ¬ inFault ps = 0) : framesR ps = 0 := by simp [framesR, h]
/-- Does what is held hold a button? -/
def hasB (x b : Int) : Bool := bits .and .i64 x b != 0
/-- Is a button pressed in frame i? -/
def pressB (xs : List Int) (b : Int) (i : Int) : Bool := hasB (heldL xs i) b && !hasB (heldL xs (i - 1)) b
def pressesM (xs : List Int) (b : Int) (k : Nat) : Nat := ((List.range k).filter fun i : Nat => pressB xs b (i : Int)).length
theorem pressesM_succ (xs : List Int) (b : Int) (k : Nat) : pressesM xs b (k + 1) = pressesM xs b k + if pressB xs b (k : Int) then 1 else 0 := by
  unfold pressesM
  rw [List.range_succ, List.filter_append]
  by_cases h : pressB xs b (k : Int) <;> simp [h]
theorem pressesM_le (xs : List Int) (b : Int) (k : Nat) : pressesM xs b k ≤ k := by
  unfold pressesM
  have := List.length_filter_le (fun i : Nat => pressB xs b (i : Int)) (List.range k)
  simpa using this

/-- One frame more of how a button is held. -/
def hstep (xs : List Int) (b : Int) (out : List (Int × Int)) (i : Nat) : List (Int × Int) :=
  if hasB (heldL xs i) b then (if hasB (heldL xs ((i : Int) - 1)) b then out.set (out.length - 1) ((out.getD (out.length - 1) (0, 0)).1, (out.getD (out.length - 1) (0, 0)).2 + 1) else out ++ [((i : Int), 1)]) else out
def holdsM (xs : List Int) (b : Int) (k : Nat) : List (Int × Int) := (List.range k).foldl (hstep xs b) []
theorem holdsM_succ (xs : List Int) (b : Int) (k : Nat) : holdsM xs b (k + 1) = hstep xs b (holdsM xs b k) k := by simp [holdsM, List.range_succ]
theorem hasB_zero (b : Int) : hasB 0 b = false := by
  unfold hasB
  have : bits .and .i64 0 b = 0 := by simp [bits, IntKind.wrap_i64]
  simp [this]
theorem holdsM_len (xs : List Int) (b : Int) (k : Nat) : (holdsM xs b k).length = pressesM xs b k := by
  induction k with
  | zero => rfl
  | succ k ih =>
    rw [holdsM_succ, pressesM_succ, ← ih]
    unfold hstep pressB
    by_cases h1 : hasB (heldL xs k) b <;> by_cases h2 : hasB (heldL xs ((k : Int) - 1)) b <;> simp [h1, h2]
/-- Where a button was held in the frame before, it was pressed before. -/
theorem holdsM_pos (xs : List Int) (b : Int) (k : Nat) (h : hasB (heldL xs ((k : Int) - 1)) b = true) : 0 < (holdsM xs b k).length := by
  induction k with
  | zero =>
    rw [heldL_out xs _ (by omega), hasB_zero] at h
    cases h
  | succ k ih =>
    have e : ((k + 1 : Nat) : Int) - 1 = k := by omega
    rw [e] at h
    rw [holdsM_succ]
    unfold hstep
    simp only [h, if_true]
    by_cases h2 : hasB (heldL xs ((k : Int) - 1)) b = true
    · simp only [h2, if_true, List.length_set]; exact ih h2
    · simp [h2]
end Go.Proofs.YtnlblgkoecnfmaaDoor
