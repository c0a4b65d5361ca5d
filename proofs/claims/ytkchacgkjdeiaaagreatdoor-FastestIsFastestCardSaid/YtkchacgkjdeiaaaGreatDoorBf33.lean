/- Texts of this seat, laid together: RtF RtG RtH. -/
import Derived.MapKept
import Derived.Test.YtkchacgkjdeiaaaGreatDoorBf32
import Derived.Test.YtkchacgkjdeiaaaGreatDoorBf28
/- The map of states, at the two states of the one map. -/
set_option linter.unusedVariables false
set_option linter.unusedSimpArgs false
namespace Go.Proofs.YtkchacgkjdeiaaaGreatDoor
open Go.RowKit

def s0 : Value:=.agg #[.int .i64 0,.int .i64 0,.int .i64 0]
def s1 : Value:=.agg #[.int .i64 1,.int .i64 0,.int .i64 0]
def es2 : Array MapEntry:=#[{ key:=s0,val:=.int .i64 0,born:=0 },{ key:=s1,val:=.int .i64 1,born:=1 }]

end Go.Proofs.YtkchacgkjdeiaaaGreatDoor
/- What stays where one block of another kind is written to. -/
namespace Go.Proofs.YtkchacgkjdeiaaaGreatDoor
open Go.RowKit

def tag (w : World) (b : Nat) : Option (Option TypeId) :=
 match w.heap[b]? with
 | some (.cells _ t _) => some (some t)
 | some (.map _ _) => some none
 | _ => none
def Kind (w : World) (row : Option Nat) (x : Option TypeId) : Prop:=∀ b,row = some b → tag w b = some x

section
variable {w w' : World} {b g base n size : Nat} {t e : TypeId} {cs : Array Value} {v u : Value} {xs : List Value} {es : Array MapEntry} {c : Nat} {row : Option Nat} {x : Option TypeId}
theorem Blk.tag (h : Blk w b t cs) : tag w b = some (some t):=by
 have h' : w.heap[b]? = some (.cells cs t (0,0)):=h
 simp [Proofs.YtkchacgkjdeiaaaGreatDoor.tag,h']
theorem Blk.kind (h : Blk w b t cs) : Kind w (some b) (some t):=fun _ hb => by injection hb with hb; subst hb; exact h.tag
theorem map_tag (h : w.heap[b]? = some (.map es c)) : tag w b = some none:=by simp [tag,h]
theorem own_kind (h : w.ownsRow base e size v n xs) : Kind w v.ownBlock (some e):=fun b hb => by
 rcases h.2 with ⟨rfl,_⟩ | ⟨g,cap,cur,rfl,_,hh,_⟩
 ·simp [Value.ownBlock] at hb
 ·have : g = b:=by simpa [Value.ownBlock] using hb
  subst this
  simp [tag,hh]
theorem Blk.other (h : Blk w b t cs) (hg : w.grownBy w' row) (hk : Kind w row x) (hne : x ≠ some t) : Blk w' b t cs :=
 (hg.block b h.lt (fun e => hne (by have:=hk b e.symm; rw [h.tag] at this; injection this with this; exact this.symm))).trans h
theorem own_other (h : w.ownsRow base e size v n xs) (hg : w.grownBy w' row) (hk : Kind w row x) (hne : x ≠ some e) : w'.ownsRow base e size v n xs:=by
 refine ⟨h.1,?_⟩;rcases h.2 with h0 | ⟨g,cap,cur,hv,hb,hh,h3⟩
 ·exact .inl h0
 ·have hb' : Blk w g e cur:=hh
  exact .inr ⟨g,cap,cur,hv,hb,hb'.other hg hk hne,h3⟩
theorem grown_poke (w : World) (b i : Nat) (u : Value) : w.grownBy (w.setCell ⟨b,i,none⟩ u) (some b):=grown_set (World.grownBy.refl w (some b)) i u
theorem map_below (h : w.heap[b]? = some (.map es c)) (hb : Below w.heap.size w w') : w'.heap[b]? = some (.map es c):=(hb.block b (Array.getElem?_eq_some_iff.1 h).1).trans h
end
structure GR (lo : Nat) (W : World) (M p go g1 c1 g2 c2 g3 c3 : Nat) (x1 x2 x3 : Array Value) (g mv gv t mb : Nat) : Prop where
  wb : WB lo W M p go g1 c1 g2 c2 g3 c3 x1 x2 x3
  mv : Blk W mv 277 #[.map (some mb)]
  gv : Blk W gv 191 #[.pointer (some ⟨g, 0, none⟩)]
  t : Blk W t 236 #[.int .i64 0, .int .i64 0, .int .i64 0, .slice none 0 0, .func (.func 138) #[.pointer (some ⟨p, 0, none⟩)] #[]]
section
variable {lo : Nat} {w w' : World} {M p go g1 c1 g2 c2 g3 c3 : Nat} {x1 x2 x3 : Array Value} {g mv gv t mb : Nat} {row : Option Nat} {x : Option TypeId}
def okKind (x : Option TypeId) : Bool:=x != some 251 && x != some 3 && x != some 248 && x != some 22 && x != some 277 && x != some 191 && x != some 236
theorem WB.other (h : WB lo w M p go g1 c1 g2 c2 g3 c3 x1 x2 x3) (hg : w.grownBy w' row) (hk : Kind w row x) (hx : okKind x = true) : WB lo w' M p go g1 c1 g2 c2 g3 c3 x1 x2 x3:=by
 simp only [okKind,Bool.and_eq_true,bne_iff_ne] at hx;exact ⟨h.p.other hg hk hx.1.1.1.1.1.1,h.g.other hg hk hx.1.1.1.1.1.2,h.hx1,h.d.other hg hk hx.1.1.1.1.2,h.hx2,h.o.other hg hk hx.1.1.1.2,h.h.other hg hk hx.1.1.1.1.1.2,h.hx3,h.z⟩
theorem GR.other (h : GR lo w M p go g1 c1 g2 c2 g3 c3 x1 x2 x3 g mv gv t mb) (hg : w.grownBy w' row) (hk : Kind w row x) (hx : okKind x = true) : GR lo w' M p go g1 c1 g2 c2 g3 c3 x1 x2 x3 g mv gv t mb:=by
 have hx':=hx;simp only [okKind,Bool.and_eq_true,bne_iff_ne] at hx;exact ⟨h.wb.other hg hk hx',h.mv.other hg hk hx.1.1.2,h.gv.other hg hk hx.1.2,h.t.other hg hk hx.2⟩
theorem GR.below (h : GR lo w M p go g1 c1 g2 c2 g3 c3 x1 x2 x3 g mv gv t mb) (hb : Below w.heap.size w w') : GR lo w' M p go g1 c1 g2 c2 g3 c3 x1 x2 x3 g mv gv t mb:=⟨h.wb.below hb,h.mv.below hb,h.gv.below hb,h.t.below hb⟩
theorem GR.alloc (h : GR lo w M p go g1 c1 g2 c2 g3 c3 x1 x2 x3 g mv gv t mb) (o : Obj) : GR lo (w.alloc o) M p go g1 c1 g2 c2 g3 c3 x1 x2 x3 g mv gv t mb:=h.below ((Below.refl _ _).alloc (Nat.le_refl _) o)
theorem GR.drew (h : GR lo w M p go g1 c1 g2 c2 g3 c3 x1 x2 x3 g mv gv t mb) : GR lo w.drew M p go g1 c1 g2 c2 g3 c3 x1 x2 x3 g mv gv t mb:=⟨h.wb.drew,h.mv,h.gv,h.t⟩
end
structure GN (lo : Nat) (W : World) (p g mb n : Nat) (es : Array MapEntry) (xs ed bs : List Value) (N E B : Value) : Prop where
  g : Blk W g 243 #[.pointer (some ⟨p, 0, none⟩), N, E, B, .slice none 0 0]
  mb : W.heap[mb]? = some (.map es n)
  N : W.ownsRow lo 232 3 N n xs
  E : W.ownsRow lo 244 1 E n ed
  B : W.ownsRow lo 4 1 B n bs
section
variable {lo : Nat} {w w' : World} {p g mb n : Nat} {es : Array MapEntry} {xs ed bs : List Value} {N E B : Value}
theorem GN.below (h : GN lo w p g mb n es xs ed bs N E B) (hb : Below w.heap.size w w') : GN lo w' p g mb n es xs ed bs N E B:=⟨h.g.below hb,map_below h.mb hb,own_keep h.N hb,own_keep h.E hb,own_keep h.B hb⟩
theorem GN.alloc (h : GN lo w p g mb n es xs ed bs N E B) (o : Obj) : GN lo (w.alloc o) p g mb n es xs ed bs N E B:=h.below ((Below.refl _ _).alloc (Nat.le_refl _) o)
theorem GN.drew (h : GN lo w p g mb n es xs ed bs N E B) : GN lo w.drew p g mb n es xs ed bs N E B:=⟨h.g,h.mb,h.N,h.E,h.B⟩
end
end Go.Proofs.YtkchacgkjdeiaaaGreatDoor
/- The walk of explore's closure at the two states. -/
namespace Go.Proofs.YtkchacgkjdeiaaaGreatDoor
open Go.RowKit

theorem Blk.w1 {w : World} {g : Nat} {t : TypeId} {a : Value} (hk : Blk w g t #[a]) : w.cell? ⟨g,0,none⟩ = some a:=by simpa using hk.cell 0
def IxPost (lo : Nat) (w : World) (p g mb n : Nat) (es : Array MapEntry) (xs ed bs : List Value) : Prop:=∃ (A1 A2 A3 : Option Addr) (d1 d2 d3 : Nat),GN lo w p g mb n es xs ed bs (.slice A1 n d1) (.slice A2 n d2) (.slice A3 n d3)
theorem ty_states : SliceTy Tryz.prog 239 232 3 24:=.mk' Tryz.underlying239 (z:=.agg #[.int .i64 0,.int .i64 0,.int .i64 0]) (by kernel_rfl) rfl (by decide)
theorem ty_stepss : SliceTy Tryz.prog 240 244 1 24:=.mk' Tryz.underlying240 (z:=.slice none 0 0) (by kernel_rfl) rfl (by decide)
theorem ty_boolz : SliceTy Tryz.prog 101 4 1 1:=.mk' Tryz.underlying101 (z:=.bool false) (by kernel_rfl) rfl (by decide)

end Go.Proofs.YtkchacgkjdeiaaaGreatDoor
