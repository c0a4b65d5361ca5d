/- Texts of this seat, laid together: Tab Env Ito. -/
import Derived.Lib.ItoaMem
import Derived.Test.YtkchacgkjdeiaaaGreatDoorProg
import Derived.Test.YtkchacgkjdeiaaaGreatDoorBf00
import Derived.Test.YtkchacgkjdeiaaaGreatDoorBf05
import Derived.Test.YtkchacgkjdeiaaaGreatDoorBf06
/- A table that the library's text lays outlives what a call makes. -/
set_option linter.unusedVariables false
set_option linter.unusedSimpArgs false
namespace Go.Proofs.YtkchacgkjdeiaaaGreatDoor
open Go.RowKit

theorem tab_below {P : Program} {w w' : World} {name : String} {k : IntKind} {zs : List Int} (h : Lib.TabIs P w name k zs) (hb : Below w.heap.size w w') : Lib.TabIs P w' name k zs:=by
 unfold Lib.TabIs World.var? at *
 cases hg : P.globalNamed name with
 | none => simp [hg] at h
 | some g =>
  simp only [hg,Option.bind_some] at h ⊢
  have hlt : g < w.heap.size:=by
   rcases Nat.lt_or_ge g w.heap.size with h' | h'
   ·exact h'
   ·rw [Array.getElem?_eq_none h'] at h; simp at h
  rw [hb.block g hlt];exact h
def Pow (w : World) : Prop := Lib.TabIs Tryz.prog w "internal/strconv.uint64pow10" .u64 Lib.pow10Tab
theorem Pow.below {w w' : World} (h : Pow w) (hb : Below w.heap.size w w') : Pow w':=tab_below h hb
theorem Pow.alloc {w : World} (h : Pow w) (o : Obj) : Pow (w.alloc o):=h.below ((Below.refl _ _).alloc (Nat.le_refl _) o)
end Go.Proofs.YtkchacgkjdeiaaaGreatDoor
/- What the library's text lays and its functions read: the powers of ten, and how long a needle the machine's search takes. -/
namespace Go.Proofs.YtkchacgkjdeiaaaGreatDoor
open Go.RowKit

def MaxL (w : World) : Prop:=∃ m,w.cell? ⟨0,0,none⟩ = some (.int .i64 m)
theorem MaxL.below {w w' : World} (h : MaxL w) (hb : Below w.heap.size w w') : MaxL w':=by
 obtain ⟨m,hm⟩:=h;exact ⟨m,(hb.cell (p:=⟨0,0,none⟩) (World.block_lt_of_cell? w ⟨0,0,none⟩ hm)).trans hm⟩
def Env (w : World) : Prop:=Pow w ∧ MaxL w
theorem Env.below {w w' : World} (h : Env w) (hb : Below w.heap.size w w') : Env w':=⟨h.1.below hb,h.2.below hb⟩
theorem Env.alloc {w : World} (h : Env w) (o : Obj) : Env (w.alloc o):=h.below ((Below.refl _ _).alloc (Nat.le_refl _) o)
end Go.Proofs.YtkchacgkjdeiaaaGreatDoor
/- Itoa, where the table of powers lies. -/
namespace Go.Proofs.YtkchacgkjdeiaaaGreatDoor
open Go.RowKit Go.Sort

end Go.Proofs.YtkchacgkjdeiaaaGreatDoor
