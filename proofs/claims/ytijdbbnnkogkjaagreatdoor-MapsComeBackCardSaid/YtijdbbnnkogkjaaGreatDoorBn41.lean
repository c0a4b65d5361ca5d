/- Texts of this seat, laid together: MpC Kind Cn. -/
import Derived.Test.YtijdbbnnkogkjaaGreatDoorBn38
import Derived.Test.YtijdbbnnkogkjaaGreatDoorBn05
import Derived.Test.YtijdbbnnkogkjaaGreatDoorBn24
import Derived.Test.YtijdbbnnkogkjaaGreatDoorBn23
import Derived.Test.YtijdbbnnkogkjaaGreatDoorBn04
import Derived.Test.YtijdbbnnkogkjaaGreatDoorBn02
import Derived.Test.YtijdbbnnkogkjaaGreatDoorBn12
/- The walk of the stream's MapOf. -/
namespace Go.Proofs.YtijdbbnnkogkjaaGreatDoor
set_option linter.unusedVariables false
set_option linter.unusedSimpArgs false
open Go.RowKit Go.Sort

section
variable {w w' : World} {base g ca cd gD gA : Nat} {A D : Option Addr} {rs : List RoomE} {ds : List DoorE}
theorem MapO.doorCells (h : MapO w base A ca rs (some ⟨gD,0,none⟩) cd ds) {k : Nat} (hk : k < ds.length) : w.cell? ⟨gD,k * 7,none⟩ = some (encStr ds[k].key) ∧ w.cell? ⟨gD,k * 7 + 1,none⟩ = some (encStr ds[k].src) ∧ w.cell? ⟨gD,k * 7 + 2,none⟩ = some (encStr ds[k].dst) ∧ w.cell? ⟨gD,k * 7 + 3,none⟩ = some (.int .i64 ds[k].time) ∧ w.cell? ⟨gD,k * 7 + 4,none⟩ = some (.slice ds[k].N ds[k].needs.length ds[k].nc) ∧ w.cell? ⟨gD,k * 7 + 5,none⟩ = some (.slice ds[k].T ds[k].takes.length ds[k].tc) ∧ w.cell? ⟨gD,k * 7 + 6,none⟩ = some (encStr ds[k].trick):=by
 obtain ⟨g,e,_,_,hc,_⟩:=ownBlk h.doors (by omega)
 injection e with e; injection e with e; subst e
 have g : ∀ j (hj : j < 7) u,(encD ds[k])[j]? = some u → w.cell? ⟨gD,k * 7 + j,none⟩ = some u:=fun j hj u hu => hc _ u (by rw [flat_at encD 7 encD_len ds k hk j hj,hu])
 exact ⟨g 0 (by omega) _ rfl,g 1 (by omega) _ rfl,g 2 (by omega) _ rfl,g 3 (by omega) _ rfl,g 4 (by omega) _ rfl,g 5 (by omega) _ rfl,g 6 (by omega) _ rfl⟩
end
structure MfC (w W : World) (g N mb : Nat) (A : Option Addr) (ca : Nat) (rs : List RoomE) (gD cd : Nat) (ds : List DoorE) (st gl : List UInt8) : Prop where
  s : Str W g N
  gr : w.grownBy W (some g)
  res : Blk W w.heap.size 29 #[.slice none 0 0, .slice none 0 0, .string ⟨#[]⟩, .string ⟨#[]⟩]
  box : Blk W mb 29 #[.slice A rs.length ca, .slice (some ⟨gD, 0, none⟩) ds.length cd, .string ⟨st.toArray⟩, .string ⟨gl.toArray⟩]
  m : MapO W (w.heap.size + 1) A ca rs (some ⟨gD, 0, none⟩) cd ds
  hm : w.heap.size < mb
  hg : g < w.heap.size
  hd : 0 < ds.length
section
variable {w W W' : World} {g N N' mb ca cd gD gA : Nat} {A : Option Addr} {rs : List RoomE} {ds : List DoorE} {st gl : List UInt8}
theorem MfC.below (h : MfC w W g N mb A ca rs gD cd ds st gl) (hb : Below W.heap.size W W') : MfC w W' g N mb A ca rs gD cd ds st gl:=⟨h.s.keep hb,grown_trans' h.gr (grown_of_below hb _),h.res.below hb,h.box.below hb,h.m.below hb,h.hm,h.hg,h.hd⟩
theorem MfC.alloc (h : MfC w W g N mb A ca rs gD cd ds st gl) (o : Obj) : MfC w (W.alloc o) g N mb A ca rs gD cd ds st gl:=h.below ((Below.refl _ _).alloc (Nat.le_refl _) o)
theorem MfC.drew (h : MfC w W g N mb A ca rs gD cd ds st gl) : MfC w W.drew g N mb A ca rs gD cd ds st gl:=h.below (below_drewN' (Below.refl _ _) 1)
theorem MfC.str (h : MfC w W g N mb A ca rs gD cd ds st gl) (hs : Str W' g N') (hb : W.grownBy W' (some g)) : MfC w W' g N' mb A ca rs gD cd ds st gl :=
 ⟨hs,grown_trans' h.gr hb,h.res.grown hb (by have:=h.hg; omega),h.box.grown hb (by have:=h.hg; have:=h.hm; omega),h.m.grown hb (by have:=h.hg; omega),h.hm,h.hg,h.hd⟩
theorem MfC.more (h : MfC w W g N mb A ca rs gD cd ds st gl) (hN : N ≤ N') : MfC w W g N' mb A ca rs gD cd ds st gl:=⟨h.s.more hN,h.gr,h.res,h.box,h.m,h.hm,h.hg,h.hd⟩
end
section
variable {w W : World} {g N mb ca cd gD : Nat} {A : Option Addr} {rs : List RoomE} {ds : List DoorE} {st gl : List UInt8}
theorem MfC.dc (h : MfC w W g N mb A ca rs gD cd ds st gl) {k : Nat} {d : DoorE} (hd : ds[k]? = some d) : W.cell? ⟨gD,k * 7,none⟩ = some (.string ⟨d.key.toArray⟩) ∧ W.cell? ⟨gD,k * 7 + 1,none⟩ = some (.string ⟨d.src.toArray⟩) ∧ W.cell? ⟨gD,k * 7 + 2,none⟩ = some (.string ⟨d.dst.toArray⟩) ∧ W.cell? ⟨gD,k * 7 + 3,none⟩ = some (.int .i64 d.time) ∧ W.cell? ⟨gD,k * 7 + 4,none⟩ = some (.slice d.N d.needs.length d.nc) ∧ W.cell? ⟨gD,k * 7 + 5,none⟩ = some (.slice d.T d.takes.length d.tc) ∧ W.cell? ⟨gD,k * 7 + 6,none⟩ = some (.string ⟨d.trick.toArray⟩):=by
 obtain ⟨hk,rfl⟩:=List.getElem?_eq_some_iff.1 hd
 exact h.m.doorCells hk
end
end Go.Proofs.YtijdbbnnkogkjaaGreatDoor
/- What stays where one block of another type is written to; attempts of the call's own; slices.Clone of strings. -/
namespace Go.Proofs.YtijdbbnnkogkjaaGreatDoor
set_option linter.unusedVariables false
set_option linter.unusedSimpArgs false
open Go.RowKit Go.Sort

def tyOf (w : World) (b : Nat) : Option TypeId :=
 match w.heap[b]? with
 | some (.cells _ t _) => some t
 | _ => none
def KindOf (w : World) (row : Option Nat) (t : TypeId) : Prop:=∀ b,row = some b → tyOf w b = some t
section
variable {w w' : World} {b base n size : Nat} {t e x : TypeId} {cs : Array Value} {v : Value} {xs : List Value} {row : Option Nat}
theorem Blk.tyOf (h : Blk w b t cs) : tyOf w b = some t:=by
 have h' : w.heap[b]? = some (.cells cs t (0,0)):=h
 simp [Proofs.YtijdbbnnkogkjaaGreatDoor.tyOf,h']
theorem own_kindOf (h : w.ownsRow base e size v n xs) : KindOf w v.ownBlock e:=fun b hb => by
 rcases h.2 with ⟨rfl,_⟩ | ⟨g,cap,cur,rfl,_,hh,_⟩
 ·simp [Value.ownBlock] at hb
 ·have : g = b:=by simpa [Value.ownBlock] using hb
  subst this
  simp [tyOf,hh]
theorem Blk.otherOf (h : Blk w b t cs) (hg : w.grownBy w' row) (hk : KindOf w row x) (hne : x ≠ t) : Blk w' b t cs :=
 (hg.block b h.lt (fun e => hne (by have:=hk b e.symm; rw [h.tyOf] at this; injection this with this; exact this.symm))).trans h
theorem own_otherOf (h : w.ownsRow base e size v n xs) (hg : w.grownBy w' row) (hk : KindOf w row x) (hne : x ≠ e) : w'.ownsRow base e size v n xs:=by
 refine ⟨h.1,?_⟩
 rcases h.2 with h0 | ⟨g,cap,cur,hv,hb,hh,h3⟩
 ·exact .inl h0
 ·have hb' : Blk w g e cur:=hh
  exact .inr ⟨g,cap,cur,hv,hb,hb'.otherOf hg hk hne,h3⟩
theorem Blk.stream {g : Nat} (h : Blk w b t cs) (hg : w.grownBy w' (some g)) (hb : g < b) : Blk w' b t cs:=(hg.block b h.lt (fun e => by injection e with e; omega)).trans h
end

def AttsC (w : World) (base : Nat) (atts : List Att) (cs : List Value) : Prop :=
 cs.length = atts.length * 2 ∧ ∀ i (h : i < atts.length),∃ B c,cs[i * 2]? = some (.int .i64 atts[i].1) ∧ cs[i * 2 + 1]? = some (.slice B atts[i].2.length c) ∧ w.ownsRow base 3 1 (.slice B atts[i].2.length c) atts[i].2.length (ints atts[i].2)
section
variable {w w' : World} {base : Nat} {atts : List Att} {cs : List Value}
theorem AttsC.nil (w : World) (base : Nat) : AttsC w base [] []:=⟨rfl,fun i h => by simp at h⟩
theorem AttsC.other {row : Option Nat} {x : TypeId} (h : AttsC w base atts cs) (hg : w.grownBy w' row) (hk : KindOf w row x) (hne : x ≠ 3) : AttsC w' base atts cs :=
 ⟨h.1,fun i hi => let ⟨B,c,a,b,d⟩:=h.2 i hi; ⟨B,c,a,b,own_otherOf d hg hk hne⟩⟩
theorem AttsC.below (h : AttsC w base atts cs) (hb : Below w.heap.size w w') : AttsC w' base atts cs :=
 ⟨h.1,fun i hi => let ⟨B,c,a,b,d⟩:=h.2 i hi; ⟨B,c,a,b,own_keep d hb⟩⟩
theorem AttsC.stream {g : Nat} (h : AttsC w base atts cs) (hg : w.grownBy w' (some g)) (hb : g < base) : AttsC w' base atts cs :=
 ⟨h.1,fun i hi => let ⟨B,c,a,b,d⟩:=h.2 i hi; ⟨B,c,a,b,own_grown d hg hb⟩⟩
end
theorem Hist.stream {w w' : World} {lo g : Nat} {SA TA : Option Addr} {segs : List (List UInt8)} {atts : List Att} (h : Hist w lo SA TA segs atts) (hg : w.grownBy w' (some g)) (hl : g < lo) : Hist w' lo SA TA segs atts:=by
 obtain ⟨h1,cs,h2,h3⟩:=h
 exact ⟨h1.grown hg hl,cs,h2.grown hg hl,fun i hi => let ⟨B,c,a,b,d⟩:=h3 i hi; ⟨B,c,a,b,d.grown hg hl⟩⟩
theorem Hist.weak {w : World} {lo lo' : Nat} {SA TA : Option Addr} {segs : List (List UInt8)} {atts : List Att} (h : Hist w lo SA TA segs atts) (hl : lo' ≤ lo) : Hist w lo' SA TA segs atts:=by
 obtain ⟨h1,cs,h2,h3⟩:=h
 exact ⟨h1.weak hl,cs,h2.weak hl,fun i hi => let ⟨B,c,a,b,d⟩:=h3 i hi; ⟨B,c,a,b,d.weak hl⟩⟩

end Go.Proofs.YtijdbbnnkogkjaaGreatDoor
/- strings.Count of one byte, over lists. -/
namespace Go.Proofs.YtijdbbnnkogkjaaGreatDoor
set_option linter.unusedVariables false
set_option linter.unusedSimpArgs false
open Go.RowKit Go.Sort

theorem count_any (s : List UInt8) (c : UInt8) (w : World) :
  Calls Tryz.prog 118 #[encStr s,.string ⟨#[c]⟩] w fun e w' => e = .returned (.int .i64 (s.count c : Nat)) ∧ w' = w:=by
 refine (Tryz.strings_Count_one ⟨s.toArray⟩ c w).mono ?_
 rintro e w' ⟨rfl,rfl⟩
 exact ⟨rfl,rfl⟩
end Go.Proofs.YtijdbbnnkogkjaaGreatDoor
