/- Texts of this seat, laid together: Kind. -/
import Derived.Test.YtbfphnknkbhpkaaGreatDoorBk204
import Derived.Test.YtbfphnknkbhpkaaGreatDoorBk208
import Derived.Test.YtbfphnknkbhpkaaGreatDoorBk207
import Derived.Test.YtbfphnknkbhpkaaGreatDoorBk202
/- What stays where one block of another type is written to; attempts of the call's own; slices.Clone of strings. -/
namespace Go.Proofs.YtbfphnknkbhpkaaGreatDoor
set_option linter.unusedVariables false
set_option linter.unusedSimpArgs false
open Go.RowKit Go.Sort

def tyOf (w : World) (b : Nat) : Option TypeId :=
 match w.heap[b]? with
 | some (.cells _ t _) => some t
 | _ => none
def KindOf (w : World) (row : Option Nat) (t : TypeId) : Prop:=∀ b,row = some b → tyOf w b = some t
section
variable {w w' : World} {b base n size : Nat} {t e x : TypeId} {cs : Array Value} {v : Value} {xs : List Value} {row : Option Nat}
theorem Blk.tyOf (h : Blk w b t cs) : tyOf w b = some t:=by
 have h' : w.heap[b]? = some (.cells cs t (0,0)):=h
 simp [Proofs.YtbfphnknkbhpkaaGreatDoor.tyOf,h']
theorem Blk.otherOf (h : Blk w b t cs) (hg : w.grownBy w' row) (hk : KindOf w row x) (hne : x ≠ t) : Blk w' b t cs :=
 (hg.block b h.lt (fun e => hne (by have:=hk b e.symm; rw [h.tyOf] at this; injection this with this; exact this.symm))).trans h
theorem own_otherOf (h : w.ownsRow base e size v n xs) (hg : w.grownBy w' row) (hk : KindOf w row x) (hne : x ≠ e) : w'.ownsRow base e size v n xs:=by
 refine ⟨h.1,?_⟩
 rcases h.2 with h0 | ⟨g,cap,cur,hv,hb,hh,h3⟩
 ·exact .inl h0
 ·have hb' : Blk w g e cur:=hh
  exact .inr ⟨g,cap,cur,hv,hb,hb'.otherOf hg hk hne,h3⟩
theorem Blk.stream {g : Nat} (h : Blk w b t cs) (hg : w.grownBy w' (some g)) (hb : g < b) : Blk w' b t cs:=(hg.block b h.lt (fun e => by injection e with e; omega)).trans h
end

def AttsC (w : World) (base : Nat) (atts : List Att) (cs : List Value) : Prop :=
 cs.length = atts.length * 2 ∧ ∀ i (h : i < atts.length),∃ B c,cs[i * 2]? = some (.int .i64 atts[i].1) ∧ cs[i * 2 + 1]? = some (.slice B atts[i].2.length c) ∧ w.ownsRow base 3 1 (.slice B atts[i].2.length c) atts[i].2.length (ints atts[i].2)
section
variable {w w' : World} {base : Nat} {atts : List Att} {cs : List Value}
theorem AttsC.nil (w : World) (base : Nat) : AttsC w base [] []:=⟨rfl,fun i h => by simp at h⟩
theorem AttsC.other {row : Option Nat} {x : TypeId} (h : AttsC w base atts cs) (hg : w.grownBy w' row) (hk : KindOf w row x) (hne : x ≠ 3) : AttsC w' base atts cs :=
 ⟨h.1,fun i hi => let ⟨B,c,a,b,d⟩:=h.2 i hi; ⟨B,c,a,b,own_otherOf d hg hk hne⟩⟩
theorem AttsC.below (h : AttsC w base atts cs) (hb : Below w.heap.size w w') : AttsC w' base atts cs :=
 ⟨h.1,fun i hi => let ⟨B,c,a,b,d⟩:=h.2 i hi; ⟨B,c,a,b,own_keep d hb⟩⟩
theorem AttsC.stream {g : Nat} (h : AttsC w base atts cs) (hg : w.grownBy w' (some g)) (hb : g < base) : AttsC w' base atts cs :=
 ⟨h.1,fun i hi => let ⟨B,c,a,b,d⟩:=h.2 i hi; ⟨B,c,a,b,own_grown d hg hb⟩⟩
theorem AttsC.push (h : AttsC w base atts cs) (no : Int) {l : List Int} {B : Option Addr} {c : Nat} (ho : w.ownsRow base 3 1 (.slice B l.length c) l.length (ints l)) : AttsC w base (atts ++ [(no,l)]) (cs ++ [.int .i64 no,.slice B l.length c]):=by
 refine ⟨by simp [h.1]; omega,fun i hi => ?_⟩
 by_cases hlt : i < atts.length
 ·obtain ⟨B',c',a,b,d⟩:=h.2 i hlt
  have e : (atts ++ [(no,l)])[i] = atts[i]:=List.getElem_append_left hlt
  rw [e]
  refine ⟨B',c',?_,?_,d⟩
  ·rw [List.getElem?_append_left (by rw [h.1]; omega)]; exact a
  ·rw [List.getElem?_append_left (by rw [h.1]; omega)]; exact b
 ·have : i = atts.length:=by simp at hi; omega
  subst this
  have e : (atts ++ [(no,l)])[atts.length] = (no,l):=by simp
  rw [e]
  refine ⟨B,c,?_,?_,ho⟩
  ·rw [List.getElem?_append_right (by rw [h.1]; omega),h.1,Nat.sub_self]; rfl
  ·rw [List.getElem?_append_right (by rw [h.1]; omega),h.1,show atts.length * 2 + 1 - atts.length * 2 = 1 by omega]; rfl
end
theorem Hist.stream {w w' : World} {lo g : Nat} {SA TA : Option Addr} {segs : List (List UInt8)} {atts : List Att} (h : Hist w lo SA TA segs atts) (hg : w.grownBy w' (some g)) (hl : g < lo) : Hist w' lo SA TA segs atts:=by
 obtain ⟨h1,cs,h2,h3⟩:=h
 exact ⟨h1.grown hg hl,cs,h2.grown hg hl,fun i hi => let ⟨B,c,a,b,d⟩:=h3 i hi; ⟨B,c,a,b,d.grown hg hl⟩⟩
theorem Hist.weak {w : World} {lo lo' : Nat} {SA TA : Option Addr} {segs : List (List UInt8)} {atts : List Att} (h : Hist w lo SA TA segs atts) (hl : lo' ≤ lo) : Hist w lo' SA TA segs atts:=by
 obtain ⟨h1,cs,h2,h3⟩:=h
 exact ⟨h1.weak hl,cs,h2.weak hl,fun i hi => let ⟨B,c,a,b,d⟩:=h3 i hi; ⟨B,c,a,b,d.weak hl⟩⟩

end Go.Proofs.YtbfphnknkbhpkaaGreatDoor
