/- Texts of this seat, laid together: MpB ShelfD. -/
import Derived.Test.YtkchacgkjdeiaaaGreatDoorProg
import Derived.Test.YtkchacgkjdeiaaaGreatDoorBf43
import Derived.Test.YtkchacgkjdeiaaaGreatDoorBf28
/- A map of the call's own memory; the walk of the stream's RightMap. -/
namespace Go.Proofs.YtkchacgkjdeiaaaGreatDoor
set_option linter.unusedVariables false
set_option linter.unusedSimpArgs false
open Go.RowKit Go.Sort

def LstO (w : World) (base : Nat) (q : Option Addr × List (List UInt8) × Nat) : Prop:=w.ownsRow base 9 1 (.slice q.1 q.2.1.length q.2.2) q.2.1.length (strs q.2.1)
def rlists (rs : List RoomE) : List (Option Addr × List (List UInt8) × Nat):=rs.map fun r => (r.B,r.gives,r.c)
def dlists (ds : List DoorE) : List (Option Addr × List (List UInt8) × Nat):=ds.flatMap fun d => [(d.N,d.needs,d.nc),(d.T,d.takes,d.tc)]
structure MapO (w : World) (base : Nat) (A : Option Addr) (ca : Nat) (rs : List RoomE) (D : Option Addr) (cd : Nat) (ds : List DoorE) : Prop where
  rooms : w.ownsRow base 134 2 (.slice A rs.length ca) rs.length (rs.flatMap encR)
  doors : w.ownsRow base 137 7 (.slice D ds.length cd) ds.length (ds.flatMap encD)
  rl : ∀ q ∈ rlists rs, LstO w base q
  dl : ∀ q ∈ dlists ds, LstO w base q
structure RoomB (r : RoomE) : Prop where
  k : r.key.length ≤ 100
  g : r.gives.length ≤ 10 ∧ ∀ s ∈ r.gives, s.length ≤ 100
structure DoorB (d : DoorE) : Prop where
  k : d.key.length ≤ 100 ∧ d.src.length ≤ 100 ∧ d.dst.length ≤ 100 ∧ d.trick.length ≤ 100
  t : -1000000000000000 ≤ d.time ∧ d.time ≤ 1000000000000000
  n : d.needs.length ≤ 10 ∧ ∀ s ∈ d.needs, s.length ≤ 100
  x : d.takes.length ≤ 10 ∧ ∀ s ∈ d.takes, s.length ≤ 100
section
variable {w w' : World} {base g ca cd : Nat} {A D : Option Addr} {rs : List RoomE} {ds : List DoorE}
theorem MapO.below (h : MapO w base A ca rs D cd ds) (hb : Below w.heap.size w w') : MapO w' base A ca rs D cd ds :=
 ⟨own_keep h.rooms hb,own_keep h.doors hb,fun q hq => own_keep (h.rl q hq) hb,fun q hq => own_keep (h.dl q hq) hb⟩
theorem MapO.alloc (h : MapO w base A ca rs D cd ds) (o : Obj) : MapO (w.alloc o) base A ca rs D cd ds:=h.below ((Below.refl _ _).alloc (Nat.le_refl _) o)
theorem MapO.drew (h : MapO w base A ca rs D cd ds) : MapO w.drew base A ca rs D cd ds:=h.below (below_drewN' (Below.refl _ _) 1)
theorem MapO.drewN (h : MapO w base A ca rs D cd ds) (n : Nat) : MapO (w.drewN n) base A ca rs D cd ds:=h.below (below_drewN' (Below.refl _ _) n)
theorem MapO.grown (h : MapO w base A ca rs D cd ds) (hb : w.grownBy w' (some g)) (hg : g < base) : MapO w' base A ca rs D cd ds :=
 ⟨own_grown h.rooms hb hg,own_grown h.doors hb hg,fun q hq => own_grown (h.rl q hq) hb hg,fun q hq => own_grown (h.dl q hq) hb hg⟩
theorem MapO.box (h : MapO w base A ca rs D cd ds) {p : Nat} {t : TypeId} {cs : Array Value} (hp : Blk w p t cs) (ht1 : 134 ≠ t) (ht2 : 137 ≠ t) (ht3 : 9 ≠ t) (i : Nat) (u : Value) : MapO (w.setCell ⟨p,i,none⟩ u) base A ca rs D cd ds :=
 ⟨own_past h.rooms hp ht1 i u,own_past h.doors hp ht2 i u,fun q hq => own_past (h.rl q hq) hp ht3 i u,fun q hq => own_past (h.dl q hq) hp ht3 i u⟩
theorem MapO.appD (h : MapO w base A ca rs D cd ds) {D' : Option Addr} {c' : Nat} {d : DoorE} (hg : w.grownBy w' (Value.slice D ds.length cd).ownBlock) (ho : w'.ownsRow base 137 7 (.slice D' (ds ++ [d]).length c') (ds ++ [d]).length ((ds ++ [d]).flatMap encD)) (hn : LstO w base (d.N,d.needs,d.nc)) (ht : LstO w base (d.T,d.takes,d.tc)) : MapO w' base A ca rs D' c' (ds ++ [d]) :=
 ⟨own_app2 h.rooms h.doors (by decide) hg,ho,fun q hq => own_app2 (h.rl q hq) h.doors (by decide) hg,fun q hq => by
  have hq' : LstO w base q:=by
   unfold dlists at hq;rw [List.flatMap_append,List.mem_append] at hq;rcases hq with hq | hq
   ·exact h.dl q hq
   ·simp at hq
    rcases hq with rfl | rfl
    ·exact hn
    ·exact ht
  exact own_app2 hq' h.doors (by decide) hg⟩
theorem MapO.weak {base' : Nat} (h : MapO w base A ca rs D cd ds) (hb : base' ≤ base) : MapO w base' A ca rs D cd ds :=
 ⟨own_weak h.rooms hb,own_weak h.doors hb,fun q hq => own_weak (h.rl q hq) hb,fun q hq => own_weak (h.dl q hq) hb⟩
end
def names5 : List (List UInt8):=[[114,97],[114,98],[114,99],[114,100],[114,101]]
def RoomsG (rs : List RoomE) : Prop:=∀ k (h : k < rs.length),(rs[k]).key = names5.getD k [] ∧ (rs[k]).gives.Sublist thingsL
def tricksG : List (List UInt8):=[[],[],[],[99,108,105,112],[106,117,109,112],[119,97,114,112]]
structure DoorG (n k : Nat) (d : DoorE) : Prop where
  key : d.key = [100, UInt8.ofNat (48 + k)]
  src : d.src ∈ names5.take n
  dst : d.dst ∈ names5.take n
  time : d.time ∈ ([1, 2, 3, 3, 5, 9] : List Int)
  needs : d.needs.Sublist thingsL
  takes : d.takes.Sublist thingsL
  trick : d.trick ∈ tricksG
def DoorsG (n : Nat) (ds : List DoorE) : Prop:=∀ k (h : k < ds.length),DoorG n k ds[k]
theorem RoomsG.app {rs : List RoomE} {r : RoomE} (h : RoomsG rs) (hk : r.key = names5.getD rs.length []) (hg : r.gives.Sublist thingsL) : RoomsG (rs ++ [r]):=fun k hl => by
 by_cases h1 : k < rs.length
 ·rw [List.getElem_append_left h1]; exact h k h1
 ·have : k = rs.length:=by simp at hl; omega
  subst this;rw [List.getElem_append_right (Nat.le_refl _)]
  simpa using ⟨hk,hg⟩
theorem DoorsG.app {n : Nat} {ds : List DoorE} {d : DoorE} (h : DoorsG n ds) (hd : DoorG n ds.length d) : DoorsG n (ds ++ [d]):=fun k hl => by
 by_cases h1 : k < ds.length
 ·rw [List.getElem_append_left h1]; exact h k h1
 ·have : k = ds.length:=by simp at hl; omega
  subst this;rw [List.getElem_append_right (Nat.le_refl _)]
  simpa using hd
theorem things_b {l : List (List UInt8)} (h : l.Sublist thingsL) : l.length ≤ 10 ∧ ∀ s ∈ l,s.length ≤ 100:=by
 refine ⟨Nat.le_trans h.length_le (by decide),fun s hs => ?_⟩
 have h6 : ∀ s ∈ thingsL,s.length ≤ 100:=by decide
 exact h6 s (h.subset hs)
theorem names_b {n : Nat} {s : List UInt8} (h : s ∈ names5.take n) : s.length ≤ 2:=by
 have h6 : ∀ s ∈ names5,s.length ≤ 2:=by decide
 exact h6 s (List.mem_of_mem_take h)
theorem RoomsG.b {rs : List RoomE} (h : RoomsG rs) : ∀ r ∈ rs,RoomB r:=fun r hr => by
 obtain ⟨k,hk,rfl⟩:=List.mem_iff_getElem.1 hr;obtain ⟨h1,h2⟩:=h k hk;refine ⟨?_,things_b h2⟩
 have h6 : ∀ s ∈ names5,s.length ≤ 2:=by decide
 rw [h1,List.getD_eq_getElem?_getD]
 cases hq : names5[k]? with
 | none => simp
 | some x => have:=h6 x (List.mem_of_getElem? hq); show x.length ≤ 100; omega
theorem DoorsG.b {n : Nat} {ds : List DoorE} (h : DoorsG n ds) : ∀ d ∈ ds,DoorB d:=fun d hd => by
 obtain ⟨k,hk,rfl⟩:=List.mem_iff_getElem.1 hd;have hg:=h k hk
 have h6 : ∀ s ∈ tricksG,s.length ≤ 100:=by decide
 have h7 : ∀ x ∈ ([1,2,3,3,5,9] : List Int),1 ≤ x ∧ x ≤ 9:=by decide
 have h8:=h7 _ hg.time;refine ⟨⟨by rw [hg.key]; simp,by have:=names_b hg.src; omega,by have:=names_b hg.dst; omega,h6 _ hg.trick⟩,⟨by omega,by omega⟩,things_b hg.needs,things_b hg.takes⟩
structure RmC (w W : World) (g N mb : Nat) (box : Array Value) : Prop where
  s : Str W g N
  gr : w.grownBy W (some g)
  nm : Blk W (w.heap.size + 1) 9 #[.string ⟨#[114, 97]⟩, .string ⟨#[114, 98]⟩, .string ⟨#[114, 99]⟩, .string ⟨#[114, 100]⟩, .string ⟨#[114, 101]⟩]
  res : Blk W w.heap.size 140 #[.slice none 0 0, .slice none 0 0, .string ⟨#[]⟩, .string ⟨#[]⟩]
  box : Blk W mb 140 box
section
variable {w W W' : World} {g N N' mb : Nat} {box : Array Value}
theorem RmC.below (h : RmC w W g N mb box) (hb : Below W.heap.size W W') : RmC w W' g N mb box:=⟨h.s.keep hb,grown_trans' h.gr (grown_of_below hb _),h.nm.below hb,h.res.below hb,h.box.below hb⟩
theorem RmC.alloc (h : RmC w W g N mb box) (o : Obj) : RmC w (W.alloc o) g N mb box:=h.below ((Below.refl _ _).alloc (Nat.le_refl _) o)
theorem RmC.drew (h : RmC w W g N mb box) : RmC w W.drew g N mb box:=h.below (below_drewN' (Below.refl _ _) 1)
theorem RmC.app (h : RmC w W g N mb box) {base size n : Nat} {e : TypeId} {v : Value} {xs : List Value} (hown : W.ownsRow base e size v n xs) (hg : W.grownBy W' v.ownBlock) (hb : g < base) (hb2 : w.heap.size ≤ base) (h1 : e ≠ 9) (h2 : e ≠ 140) : RmC w W' g N mb box :=
 ⟨h.s.app hown hg hb,grown_app h.gr hown hg hb2,Blk.app hown h.nm hg h1,Blk.app hown h.res hg h2,Blk.app hown h.box hg h2⟩
theorem RmC.set (h : RmC w W g N mb box) (hg : g < w.heap.size) (hm : w.heap.size + 2 ≤ mb) (i : Nat) (u : Value) : RmC w (W.setCell ⟨mb,i,none⟩ u) g N mb (box.setIfInBounds i u) :=
 ⟨h.s.set (by simp; omega) _,grown_set_new h.gr (by simp; omega) _,h.nm.past mb i u (by omega),h.res.past mb i u (by omega),h.box.poke i u⟩
theorem RmC.more (h : RmC w W g N mb box) (hN : N ≤ N') : RmC w W g N' mb box:=⟨h.s.more hN,h.gr,h.nm,h.res,h.box⟩
end
end Go.Proofs.YtkchacgkjdeiaaaGreatDoor
/-! Nothing of this is in this seat. -/
