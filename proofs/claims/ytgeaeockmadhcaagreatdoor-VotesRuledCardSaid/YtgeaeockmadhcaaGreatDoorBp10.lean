/- Texts of this seat, laid together: SgD. -/
import Derived.Test.YtgeaeockmadhcaaGreatDoorBp09
/- The walk of leasts at a history that is right. -/
namespace Go.Proofs.YtgeaeockmadhcaaGreatDoor
set_option linter.unusedVariables false
set_option linter.unusedSimpArgs false
open Go.RowKit Go.Sort

def OutB (w : World) (g : Nat) (ol : List Int) : Prop:=∃ cs,Blk w g 3 cs ∧ ∀ i (h : i < ol.length),cs[i]? = some (.int .i64 ol[i])
theorem OutB.lt {w : World} {g : Nat} {ol : List Int} (h : OutB w g ol) : g < w.heap.size:=by obtain ⟨cs,h1,_⟩:=h; exact h1.lt
theorem OutB.below {w w' : World} {g : Nat} {ol : List Int} (h : OutB w g ol) (hb : Below w.heap.size w w') : OutB w' g ol:=by obtain ⟨cs,h1,h2⟩:=h; exact ⟨cs,h1.below hb,h2⟩
theorem OutB.alloc {w : World} {g : Nat} {ol : List Int} (h : OutB w g ol) (o : Obj) : OutB (w.alloc o) g ol:=h.below ((Below.refl _ _).alloc (Nat.le_refl _) o)
theorem OutB.drewN {w : World} {g : Nat} {ol : List Int} (h : OutB w g ol) (q : Nat) : OutB (w.drewN q) g ol:=h
theorem OutB.drew {w : World} {g : Nat} {ol : List Int} (h : OutB w g ol) : OutB w.drew g ol:=h
theorem OutB.app {w1 w2 : World} {g base n size : Nat} {e : TypeId} {ol : List Int} {v : Value} {xs : List Value} (hown : w1.ownsRow base e size v n xs) (h : OutB w1 g ol) (hg : w1.grownBy w2 v.ownBlock) (hne : e ≠ 3) : OutB w2 g ol:=by
 obtain ⟨cs,h1,h2⟩:=h; exact ⟨cs,Blk.app hown h1 hg hne,h2⟩
theorem OutB.cell {w : World} {g : Nat} {ol : List Int} (h : OutB w g ol) (i : Nat) (hi : i < ol.length) : w.cell? ⟨g,i,none⟩ = some (.int .i64 ol[i]):=by obtain ⟨cs,h1,h2⟩:=h; rw [h1.cell]; exact h2 i hi
theorem OutB.set {w : World} {g : Nat} {ol : List Int} (h : OutB w g ol) (i : Nat) (hi : i < ol.length) (x : Int) : OutB (w.setCell ⟨g,i,none⟩ (.int .i64 x)) g (ol.set i x):=by
 obtain ⟨cs,h1,h2⟩:=h
 have h' : w.heap[g]? = some (.cells cs 3 (0,0)):=h1
 refine ⟨cs.setIfInBounds i (.int .i64 x),?_,fun j hj => ?_⟩
 ·unfold Blk
  simp [World.setCell,Array.getElem?_modify,h']
 ·have hj' : j < ol.length:=by simpa using hj
  have hc:=h2 j hj'
  have hs : j < cs.size:=(Array.getElem?_eq_some_iff.1 hc).1
  rw [Array.getElem?_setIfInBounds,List.getElem_set]
  by_cases e : i = j
  ·subst e; simp [hs]
  ·simp [e,hc]
theorem OutB.keep {w : World} {g : Nat} {ol : List Int} (h : OutB w g ol) : ∀ (k i : Nat) (u : Value),g ≠ k → OutB (w.setCell ⟨k,i,none⟩ u) g ol:=by
 intro k i u hne
 obtain ⟨cs,h1,h2⟩:=h
 have h' : w.heap[g]? = some (.cells cs 3 (0,0)):=h1
 have hne' : ¬ k = g:=fun e => hne e.symm
 refine ⟨cs,?_,h2⟩
 unfold Blk
 simp [World.setCell,Array.getElem?_modify,h',hne']

end Go.Proofs.YtgeaeockmadhcaaGreatDoor
