/- The walks of what folds and unfolds an input: frames, pieces, what is held in a frame. -/
import Derived.Test.YtlnencloodlnbaaDoorInpA
import Derived.Test.YtlnencloodlnbaaDoorRep
namespace Go.Proofs.YtlnencloodlnbaaDoor
open Go.RowKit

theorem ints_rep (n : Nat) (h : Int) : List.replicate n (Value.int .i64 h) = ints (List.replicate n h) := by simp [ints]

/-- The last piece of what is folded holds what the last frame holds. -/
theorem fadd_last (out : List (Int × Int)) (h n : Int) (hn : n ≠ 0) : (fadd out h n).getLast?.map (·.1) = some h := by
  unfold fadd
  simp only [hn, if_false]
  cases hl : out.getLast? with
  | none => simp
  | some q => by_cases hq : q.1 = h <;> simp [hq]
theorem foldM_last (l : List Int) (k : Nat) (hk : k < l.length) : (foldM (l.take (k + 1))).getLast?.map (·.1) = some l[k] := by
  rw [foldM_take l k hk]; exact fadd_last _ _ _ (by omega)
theorem last_at {o : List (Int × Int)} {h : Int} (hl : o.getLast?.map (·.1) = some h) : ∃ hj : o.length - 1 < o.length, (o[o.length - 1]'hj).1 = h := by
  cases ho : o.getLast? with
  | none => rw [ho] at hl; cases hl
  | some q =>
    rw [ho] at hl
    simp at hl
    have hne : o ≠ [] := by intro h0; simp [h0] at ho
    have hj : o.length - 1 < o.length := by have := List.length_pos_iff.2 hne; omega
    refine ⟨hj, ?_⟩
    rw [List.getLast?_eq_getElem?, List.getElem?_eq_getElem hj] at ho
    injection ho with ho
    rw [ho, hl]
theorem foldM_pos (l : List Int) : ∀ p ∈ foldM l, 0 ≤ p.2 := by
  suffices H : ∀ out : List (Int × Int), (∀ p ∈ out, 0 ≤ p.2) → ∀ p ∈ l.foldl (fun o h => fadd o h 1) out, 0 ≤ p.2 from H [] (by simp)
  induction l with
  | nil => intro out ho; simpa using ho
  | cons p ps ih =>
    intro out ho
    rw [List.foldl_cons]
    exact ih _ (fadd_mem (by omega) ho)
theorem foldM_psum (l : List Int) : psum (foldM l) = l.length := by
  suffices H : ∀ out : List (Int × Int), psum (l.foldl (fun o h => fadd o h 1) out) = psum out + l.length from by have := H []; rw [psum_nil, Int.zero_add] at this; exact this
  induction l with
  | nil => intro out; simp
  | cons p ps ih =>
    intro out
    rw [List.foldl_cons, ih, fadd_psum]
    simp
    omega

end Go.Proofs.YtlnencloodlnbaaDoor
