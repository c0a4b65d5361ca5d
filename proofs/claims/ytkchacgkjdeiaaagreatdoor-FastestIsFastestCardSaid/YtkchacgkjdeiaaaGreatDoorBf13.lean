/- Texts of this seat, laid together: Tx. -/
import Derived.Lib.Split
import Derived.Lib.ItoaMem
import Derived.Lib.Atoi
import Derived.Lib.Join
import Derived.Test.YtkchacgkjdeiaaaGreatDoorBf05
/- Plain laws on strings as lists of bytes: cutting at single bytes, numbers as they are written; no program of Go in sight. -/
namespace Go.Proofs.YtkchacgkjdeiaaaGreatDoor
set_option linter.unusedVariables false
set_option linter.unusedSimpArgs false
open Go.RowKit Go.Sort

def cutAt (c : UInt8) : List UInt8 → List (List UInt8)
 | [] => [[]]
 | b :: l => if b = c then [] :: cutAt c l else match cutAt c l with
  | [] => [[b]]
  | x :: r => (b :: x) :: r
theorem cutAt_first (c : UInt8) (a l : List UInt8) (h : c ∉ a) : cutAt c (a ++ c :: l) = a :: cutAt c l:=by
 induction a with
 | nil => simp [cutAt]
 | cons b a ih =>
  have hb : ¬ b = c:=fun e => h (by simp [e])
  rw [List.cons_append,cutAt,if_neg hb,ih (fun h' => h (List.mem_cons_of_mem _ h'))]
theorem cutAt_none (c : UInt8) (a : List UInt8) (h : c ∉ a) : cutAt c a = [a]:=by
 induction a with
 | nil => rfl
 | cons b a ih =>
  have hb : ¬ b = c:=fun e => h (by simp [e])
  rw [cutAt,if_neg hb,ih (fun h' => h (List.mem_cons_of_mem _ h'))]
theorem split_first (c : UInt8) (s : List UInt8) : (c ∉ s) ∨ ∃ a l,s = a ++ c :: l ∧ c ∉ a:=by
 by_cases h : c ∈ s
 ·exact .inr (by
   obtain ⟨a,l,h1,h2⟩:=List.eq_append_cons_of_mem h
   exact ⟨a,l,h1,h2⟩)
 ·exact .inl h
end Go.Proofs.YtkchacgkjdeiaaaGreatDoor
