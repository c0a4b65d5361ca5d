/- Texts of this seat, laid together: Kind Cn. -/
import Derived.Test.YtijdbbnnkogkjaaGreatDoorBk05
import Derived.Test.YtijdbbnnkogkjaaGreatDoorBk24
import Derived.Test.YtijdbbnnkogkjaaGreatDoorBk23
import Derived.Test.YtijdbbnnkogkjaaGreatDoorBk04
import Derived.Test.YtijdbbnnkogkjaaGreatDoorBk02
import Derived.Test.YtijdbbnnkogkjaaGreatDoorBk12
/- What stays where one block of another type is written to; attempts of the call's own; slices.Clone of strings. -/
namespace Go.Proofs.YtijdbbnnkogkjaaGreatDoor
set_option linter.unusedVariables false
set_option linter.unusedSimpArgs false
open Go.RowKit Go.Sort

def tyOf (w : World) (b : Nat) : Option TypeId :=
 match w.heap[b]? with
 | some (.cells _ t _) => some t
 | _ => none
def KindOf (w : World) (row : Option Nat) (t : TypeId) : Prop:=∀ b,row = some b → tyOf w b = some t
section
variable {w w' : World} {b base n size : Nat} {t e x : TypeId} {cs : Array Value} {v : Value} {xs : List Value} {row : Option Nat}
theorem Blk.tyOf (h : Blk w b t cs) : tyOf w b = some t:=by
 have h' : w.heap[b]? = some (.cells cs t (0,0)):=h
 simp [Proofs.YtijdbbnnkogkjaaGreatDoor.tyOf,h']
theorem own_kindOf (h : w.ownsRow base e size v n xs) : KindOf w v.ownBlock e:=fun b hb => by
 rcases h.2 with ⟨rfl,_⟩ | ⟨g,cap,cur,rfl,_,hh,_⟩
 ·simp [Value.ownBlock] at hb
 ·have : g = b:=by simpa [Value.ownBlock] using hb
  subst this
  simp [tyOf,hh]
theorem Blk.otherOf (h : Blk w b t cs) (hg : w.grownBy w' row) (hk : KindOf w row x) (hne : x ≠ t) : Blk w' b t cs :=
 (hg.block b h.lt (fun e => hne (by have:=hk b e.symm; rw [h.tyOf] at this; injection this with this; exact this.symm))).trans h
theorem own_otherOf (h : w.ownsRow base e size v n xs) (hg : w.grownBy w' row) (hk : KindOf w row x) (hne : x ≠ e) : w'.ownsRow base e size v n xs:=by
 refine ⟨h.1,?_⟩
 rcases h.2 with h0 | ⟨g,cap,cur,hv,hb,hh,h3⟩
 ·exact .inl h0
 ·have hb' : Blk w g e cur:=hh
  exact .inr ⟨g,cap,cur,hv,hb,hb'.otherOf hg hk hne,h3⟩
theorem Blk.stream {g : Nat} (h : Blk w b t cs) (hg : w.grownBy w' (some g)) (hb : g < b) : Blk w' b t cs:=(hg.block b h.lt (fun e => by injection e with e; omega)).trans h
end

def AttsC (w : World) (base : Nat) (atts : List Att) (cs : List Value) : Prop :=
 cs.length = atts.length * 2 ∧ ∀ i (h : i < atts.length),∃ B c,cs[i * 2]? = some (.int .i64 atts[i].1) ∧ cs[i * 2 + 1]? = some (.slice B atts[i].2.length c) ∧ w.ownsRow base 3 1 (.slice B atts[i].2.length c) atts[i].2.length (ints atts[i].2)
section
variable {w w' : World} {base : Nat} {atts : List Att} {cs : List Value}
theorem AttsC.nil (w : World) (base : Nat) : AttsC w base [] []:=⟨rfl,fun i h => by simp at h⟩
theorem AttsC.other {row : Option Nat} {x : TypeId} (h : AttsC w base atts cs) (hg : w.grownBy w' row) (hk : KindOf w row x) (hne : x ≠ 3) : AttsC w' base atts cs :=
 ⟨h.1,fun i hi => let ⟨B,c,a,b,d⟩:=h.2 i hi; ⟨B,c,a,b,own_otherOf d hg hk hne⟩⟩
theorem AttsC.below (h : AttsC w base atts cs) (hb : Below w.heap.size w w') : AttsC w' base atts cs :=
 ⟨h.1,fun i hi => let ⟨B,c,a,b,d⟩:=h.2 i hi; ⟨B,c,a,b,own_keep d hb⟩⟩
theorem AttsC.stream {g : Nat} (h : AttsC w base atts cs) (hg : w.grownBy w' (some g)) (hb : g < base) : AttsC w' base atts cs :=
 ⟨h.1,fun i hi => let ⟨B,c,a,b,d⟩:=h.2 i hi; ⟨B,c,a,b,own_grown d hg hb⟩⟩
end
theorem Hist.stream {w w' : World} {lo g : Nat} {SA TA : Option Addr} {segs : List (List UInt8)} {atts : List Att} (h : Hist w lo SA TA segs atts) (hg : w.grownBy w' (some g)) (hl : g < lo) : Hist w' lo SA TA segs atts:=by
 obtain ⟨h1,cs,h2,h3⟩:=h
 exact ⟨h1.grown hg hl,cs,h2.grown hg hl,fun i hi => let ⟨B,c,a,b,d⟩:=h3 i hi; ⟨B,c,a,b,d.grown hg hl⟩⟩
theorem Hist.weak {w : World} {lo lo' : Nat} {SA TA : Option Addr} {segs : List (List UInt8)} {atts : List Att} (h : Hist w lo SA TA segs atts) (hl : lo' ≤ lo) : Hist w lo' SA TA segs atts:=by
 obtain ⟨h1,cs,h2,h3⟩:=h
 exact ⟨h1.weak hl,cs,h2.weak hl,fun i hi => let ⟨B,c,a,b,d⟩:=h3 i hi; ⟨B,c,a,b,d.weak hl⟩⟩

end Go.Proofs.YtijdbbnnkogkjaaGreatDoor
/- strings.Count of one byte, over lists. -/
namespace Go.Proofs.YtijdbbnnkogkjaaGreatDoor
set_option linter.unusedVariables false
set_option linter.unusedSimpArgs false
open Go.RowKit Go.Sort

theorem count_any (s : List UInt8) (c : UInt8) (w : World) :
  Calls Tryz.prog 118 #[encStr s,.string ⟨#[c]⟩] w fun e w' => e = .returned (.int .i64 (s.count c : Nat)) ∧ w' = w:=by
 refine (Tryz.strings_Count_one ⟨s.toArray⟩ c w).mono ?_
 rintro e w' ⟨rfl,rfl⟩
 exact ⟨rfl,rfl⟩
end Go.Proofs.YtijdbbnnkogkjaaGreatDoor
