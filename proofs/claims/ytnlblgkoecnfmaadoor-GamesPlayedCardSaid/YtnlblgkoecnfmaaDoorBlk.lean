/- Small laws of a block that is known whole. -/
import Derived.Test.YtnlblgkoecnfmaaDoorInpD
namespace Go.Proofs.YtnlblgkoecnfmaaDoor
set_option linter.unusedVariables false
set_option linter.unusedSimpArgs false
open Go.RowKit

theorem Blk.thaw {w : World} {g : Nat} {t : TypeId} {cs : Array Value} (h : Blk w g t cs) (i : Nat) : w.frozen? ⟨g, i, none⟩ = false := by
  have h' : w.heap[g]? = some (.cells cs t (0, 0)) := h
  simp [World.frozen?, h']
theorem Blk.poke {w : World} {g : Nat} {t : TypeId} {cs : Array Value} (h : Blk w g t cs) (i : Nat) (u : Value) : Blk (w.setCell ⟨g, i, none⟩ u) g t (cs.setIfInBounds i u) := by
  have h' : w.heap[g]? = some (.cells cs t (0, 0)) := h
  unfold Blk
  simp [World.setCell, Array.getElem?_modify, h']
theorem Blk.past {w : World} {g : Nat} {t : TypeId} {cs : Array Value} (h : Blk w g t cs) (k i : Nat) (u : Value) (hne : g ≠ k) : Blk (w.setCell ⟨k, i, none⟩ u) g t cs := by
  have h' : w.heap[g]? = some (.cells cs t (0, 0)) := h
  unfold Blk
  have hne' : ¬ k = g := fun e => hne e.symm
  simp [World.setCell, Array.getElem?_modify, h', hne']
/-- A row of the call's own stays where another block is written to. -/
theorem own_past {w : World} {base size n g : Nat} {e t : TypeId} {v : Value} {xs : List Value} {cs : Array Value} (h : w.ownsRow base e size v n xs) (hb : Blk w g t cs) (hne : e ≠ t) (i : Nat) (u : Value) : (w.setCell ⟨g, i, none⟩ u).ownsRow base e size v n xs := by
  refine ⟨h.1, ?_⟩
  rcases h.2 with h0 | ⟨g', cap, cur, hv, hg, hh, h3⟩
  · exact .inl h0
  · have hgg : ¬ g = g' := by
      intro e1
      subst e1
      have h' : w.heap[g]? = some (.cells cs t (0, 0)) := hb
      rw [h'] at hh
      injection hh with hh
      injection hh with _ h2
      exact hne h2.symm
    exact .inr ⟨g', cap, cur, hv, hg, by simp [World.setCell, Array.getElem?_modify, hgg, hh], h3⟩
end Go.Proofs.YtnlblgkoecnfmaaDoor
