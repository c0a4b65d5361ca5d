/- Texts of this seat, laid together: Rgf. -/
import Derived.RangeFuncNested
import Derived.RangeFuncBound
import Derived.RangeFuncCalls
import Derived.RangeFuncLeaves
import Derived.Shelf.Abstract
import Derived.Shelf.RegionOpen
import Derived.WalkKit
import Derived.OwnWalkIn
import Derived.TacticsInMore
import Derived.LoopNIn
import Derived.LoopIn
import Derived.Test.YtdidcjhgdofgcaaGreatDoorBc02
/- What a function that holds a range over a function must achieve, and how it is left. -/
namespace Go.Proofs.YtdidcjhgdofgcaaGreatDoor
set_option linter.unusedVariables false
set_option linter.unusedSimpArgs false
open Go.RowKit Go.Shelf

attribute [local go_sem] Oper.semAt_some

/-! ### a function that holds a range over a function -/
/-- What the body must achieve: no panic, marks and all. -/
def bodyPostR (P : Program) (fn : Func) (R : Ending → World → Prop) : Exit → Act → World → Prop
  | .normal, a, w | .ret, a, w => LeavesInM Fence.wide 9 P fn a.tmps R a.defers .returning w
  | _, _, _ => False
theorem calls_of_wp_M {P : Program} {f : FuncId} {fn : Func} {c : Code} {args : Array Value} {w : World} {R : Ending → World → Prop} (hf : P.funcs[f]? = some fn) (hb : fn.body = some c)
    (h : c.wp P (bodyPostR P fn R) { tmps := args ++ Array.replicate (fn.ntmps - args.size) undef, defers := [] } w) : Calls P f args w R :=
  callsIn_wide.1 (callsIn_of_wp_marks (F := Fence.wide) (n := 9) hf hb trivial (wpIn_wide.2 (wp_mono h (fun e a w hq => by
    cases e <;> first | exact hq | exact hq.elim))))
theorem bodyM_of {P : Program} {fn : Func} {R : Ending → World → Prop} {a : Act} {w : World} (h : bodyPost P fn R .ret a w) : bodyPostR P fn R .ret a w := by
  obtain ⟨hd, v, hv, hR⟩ := h
  show LeavesInM Fence.wide 9 P fn a.tmps R a.defers .returning w
  rw [hd]
  exact ⟨v, hv, hR⟩
/-- The way out of a function behind a range over a function. -/
theorem bodyM_mark {P : Program} {fn : Func} {R : Ending → World → Prop} {a : Act} {w : World} {D : Nat} {args : Array Value} {v : Value} (hd : a.defers = [{ target := .collected D, args := args }]) (hK : w.heap[D]? = some (.deferred (some []))) (hv : (results fn a.tmps).run P (w.putObj D (.deferred none)) = .ok v (w.putObj D (.deferred none))) (hR : R (.returned v) (w.putObj D (.deferred none))) : bodyPostR P fn R .ret a w := by
  show LeavesInM Fence.wide 9 P fn a.tmps R a.defers .returning w
  rw [hd]
  exact ⟨by simp, .inl ⟨_, _, rfl, run_takeDeferred hK, v, hv, hR⟩⟩
theorem Blk.keptF {X Y : World} {row : Option Nat} {b : Nat} {t : TypeId} {cs : Array Value} (h : Blk X b t cs) (hg : X.grownBy Y row) (hr : ∀ r, row = some r → ∃ o : Obj, X.heap[r]? = some o ∧ o.isCells = false) : Blk Y b t cs :=
  (hg.block b h.lt (fun e => by
    obtain ⟨o, ho, hc⟩ := hr b e.symm
    rw [show X.heap[b]? = _ from h] at ho
    cases ho
    cases hc)).trans h
theorem ax_own (B B0 : Nat) (t : TypeId) (f : Nat → Array Value) (T : Nat → Nat → Array Value) (x : Nat) (a' : Act) : OwnFrom B (fun (_ : Unit) W => ∃ Bx, B0 ≤ Bx ∧ Blk W Bx t (f x) ∧ a' = { tmps := T x Bx, defers := [] }) := by
  rintro _ X Y row ⟨Bx, h1, h2, h3⟩ hg hr
  exact ⟨Bx, h1, Blk.keptF h2 hg (fun r e => (hr r e).2), h3⟩
end Go.Proofs.YtdidcjhgdofgcaaGreatDoor
