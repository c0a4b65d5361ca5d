/- Texts of this seat, laid together: MpB. -/
import Derived.Test.YtjggbpchmbdocaaGreatDoorBt28
import Derived.Test.YtjggbpchmbdocaaGreatDoorBt29
import Derived.Test.YtjggbpchmbdocaaGreatDoorBt07
/- A map of the call's own memory; the walk of the stream's RightMap. -/
namespace Go.Proofs.YtjggbpchmbdocaaGreatDoor
set_option linter.unusedVariables false
set_option linter.unusedSimpArgs false
open Go.RowKit Go.Sort

def LstO (w : World) (base : Nat) (q : Option Addr × List (List UInt8) × Nat) : Prop:=w.ownsRow base 9 1 (.slice q.1 q.2.1.length q.2.2) q.2.1.length (strs q.2.1)
def rlists (rs : List RoomE) : List (Option Addr × List (List UInt8) × Nat):=rs.map fun r => (r.B,r.gives,r.c)
def dlists (ds : List DoorE) : List (Option Addr × List (List UInt8) × Nat):=ds.flatMap fun d => [(d.N,d.needs,d.nc),(d.T,d.takes,d.tc)]
structure MapO (w : World) (base : Nat) (A : Option Addr) (ca : Nat) (rs : List RoomE) (D : Option Addr) (cd : Nat) (ds : List DoorE) : Prop where
  rooms : w.ownsRow base 88 2 (.slice A rs.length ca) rs.length (rs.flatMap encR)
  doors : w.ownsRow base 120 7 (.slice D ds.length cd) ds.length (ds.flatMap encD)
  rl : ∀ q ∈ rlists rs, LstO w base q
  dl : ∀ q ∈ dlists ds, LstO w base q
structure RoomB (r : RoomE) : Prop where
  k : r.key.length ≤ 100
  g : r.gives.length ≤ 10 ∧ ∀ s ∈ r.gives, s.length ≤ 100
structure DoorB (d : DoorE) : Prop where
  k : d.key.length ≤ 100 ∧ d.src.length ≤ 100 ∧ d.dst.length ≤ 100 ∧ d.trick.length ≤ 100
  t : -1000000000000000 ≤ d.time ∧ d.time ≤ 1000000000000000
  n : d.needs.length ≤ 10 ∧ ∀ s ∈ d.needs, s.length ≤ 100
  x : d.takes.length ≤ 10 ∧ ∀ s ∈ d.takes, s.length ≤ 100
section
variable {w w' : World} {base g ca cd : Nat} {A D : Option Addr} {rs : List RoomE} {ds : List DoorE}
theorem MapO.below (h : MapO w base A ca rs D cd ds) (hb : Below w.heap.size w w') : MapO w' base A ca rs D cd ds :=
 ⟨own_keep h.rooms hb,own_keep h.doors hb,fun q hq => own_keep (h.rl q hq) hb,fun q hq => own_keep (h.dl q hq) hb⟩
theorem MapO.alloc (h : MapO w base A ca rs D cd ds) (o : Obj) : MapO (w.alloc o) base A ca rs D cd ds:=h.below ((Below.refl _ _).alloc (Nat.le_refl _) o)
theorem MapO.drew (h : MapO w base A ca rs D cd ds) : MapO w.drew base A ca rs D cd ds:=h.below (below_drewN' (Below.refl _ _) 1)
theorem MapO.drewN (h : MapO w base A ca rs D cd ds) (n : Nat) : MapO (w.drewN n) base A ca rs D cd ds:=h.below (below_drewN' (Below.refl _ _) n)
theorem MapO.grown (h : MapO w base A ca rs D cd ds) (hb : w.grownBy w' (some g)) (hg : g < base) : MapO w' base A ca rs D cd ds :=
 ⟨own_grown h.rooms hb hg,own_grown h.doors hb hg,fun q hq => own_grown (h.rl q hq) hb hg,fun q hq => own_grown (h.dl q hq) hb hg⟩
theorem MapO.box (h : MapO w base A ca rs D cd ds) {p : Nat} {t : TypeId} {cs : Array Value} (hp : Blk w p t cs) (ht1 : 88 ≠ t) (ht2 : 120 ≠ t) (ht3 : 9 ≠ t) (i : Nat) (u : Value) : MapO (w.setCell ⟨p,i,none⟩ u) base A ca rs D cd ds :=
 ⟨own_past h.rooms hp ht1 i u,own_past h.doors hp ht2 i u,fun q hq => own_past (h.rl q hq) hp ht3 i u,fun q hq => own_past (h.dl q hq) hp ht3 i u⟩
theorem MapO.setOff (h : MapO w base A ca rs D cd ds) {p : Addr} (hp : p.block < base) (u : Value) : MapO (w.setCell p u) base A ca rs D cd ds :=
 have k : ∀ {e : TypeId} {size n : Nat} {v : Value} {xs : List Value},w.ownsRow base e size v n xs → (w.setCell p u).ownsRow base e size v n xs:=fun ho => own_set_otherW ho (fun b hb => by have:=(ho.lt b hb).1; omega) u
 ⟨k h.rooms,k h.doors,fun q hq => k (h.rl q hq),fun q hq => k (h.dl q hq)⟩
theorem MapO.setDb (h : MapO w base A ca rs D cd ds) {k : Nat} {cs : Array Value} (hk : Blk w k 120 cs) (hdo : ∀ b,(Value.slice D ds.length cd).ownBlock = some b → b ≠ k) (i : Nat) (u : Value) : MapO (w.setCell ⟨k,i,none⟩ u) base A ca rs D cd ds :=
 ⟨own_past h.rooms hk (by decide) i u,own_set_otherW h.doors hdo u,fun q hq => own_past (h.rl q hq) hk (by decide) i u,fun q hq => own_past (h.dl q hq) hk (by decide) i u⟩
theorem MapO.appR (h : MapO w base A ca rs D cd ds) {A' : Option Addr} {c' : Nat} {r : RoomE} (hg : w.grownBy w' (Value.slice A rs.length ca).ownBlock) (ho : w'.ownsRow base 88 2 (.slice A' (rs ++ [r]).length c') (rs ++ [r]).length ((rs ++ [r]).flatMap encR)) (hr : LstO w base (r.B,r.gives,r.c)) : MapO w' base A' c' (rs ++ [r]) D cd ds :=
 ⟨ho,own_app2 h.doors h.rooms (by decide) hg,fun q hq => by
  have hq' : LstO w base q:=by
   unfold rlists at hq;rw [List.map_append,List.mem_append] at hq;rcases hq with hq | hq
   ·exact h.rl q hq
   ·simp at hq; subst hq; exact hr
  exact own_app2 hq' h.rooms (by decide) hg,fun q hq => own_app2 (h.dl q hq) h.rooms (by decide) hg⟩
theorem MapO.appD (h : MapO w base A ca rs D cd ds) {D' : Option Addr} {c' : Nat} {d : DoorE} (hg : w.grownBy w' (Value.slice D ds.length cd).ownBlock) (ho : w'.ownsRow base 120 7 (.slice D' (ds ++ [d]).length c') (ds ++ [d]).length ((ds ++ [d]).flatMap encD)) (hn : LstO w base (d.N,d.needs,d.nc)) (ht : LstO w base (d.T,d.takes,d.tc)) : MapO w' base A ca rs D' c' (ds ++ [d]) :=
 ⟨own_app2 h.rooms h.doors (by decide) hg,ho,fun q hq => own_app2 (h.rl q hq) h.doors (by decide) hg,fun q hq => by
  have hq' : LstO w base q:=by
   unfold dlists at hq;rw [List.flatMap_append,List.mem_append] at hq;rcases hq with hq | hq
   ·exact h.dl q hq
   ·simp at hq
    rcases hq with rfl | rfl
    ·exact hn
    ·exact ht
  exact own_app2 hq' h.doors (by decide) hg⟩
theorem MapO.weak {base' : Nat} (h : MapO w base A ca rs D cd ds) (hb : base' ≤ base) : MapO w base' A ca rs D cd ds :=
 ⟨own_weak h.rooms hb,own_weak h.doors hb,fun q hq => own_weak (h.rl q hq) hb,fun q hq => own_weak (h.dl q hq) hb⟩
theorem own_capM {e : TypeId} {size n c : Nat} {A : Option Addr} {xs : List Value} (h : w.ownsRow base e size (.slice A n c) n xs) : n ≤ c:=by
 rcases h.2 with ⟨hv,hn⟩ | ⟨g,cap,cur,hv,_,_,hcap,_⟩
 ·omega
 ·injection hv with _ _ e2; omega
theorem MapO.toW (h : MapO w base A ca rs D cd ds) (h1 : rs.length ≤ 1000) (h2 : ds.length ≤ 1000) (hr : ∀ r ∈ rs,RoomB r) (hd : ∀ d ∈ ds,DoorB d) : MapW w base A rs D ds:=by
 have l1 : ∀ r ∈ rs,LstO w base (r.B,r.gives,r.c):=fun r hr => h.rl _ (List.mem_map.2 ⟨r,hr,rfl⟩)
 have l2 : ∀ d ∈ ds,LstO w base (d.N,d.needs,d.nc) ∧ LstO w base (d.T,d.takes,d.tc):=fun d hd => ⟨h.dl _ (List.mem_flatMap.2 ⟨d,hd,by simp⟩),h.dl _ (List.mem_flatMap.2 ⟨d,hd,by simp⟩)⟩
 refine ⟨Row.of_own h.rooms,Row.of_own h.doors,fun r hr => ⟨Row.of_own (l1 r hr),own_capM (l1 r hr)⟩,fun d hd => ⟨Row.of_own (l2 d hd).1,own_capM (l2 d hd).1⟩,fun d hd => ⟨Row.of_own (l2 d hd).2,own_capM (l2 d hd).2⟩,h1,h2,fun r h => by have:=(hr r h).k; omega,fun r h => ⟨by have:=(hr r h).g.1; omega,fun s hs => by have:=(hr r h).g.2 s hs; omega⟩,fun d h => by have:=(hd d h).k; omega,fun d h => by have:=(hd d h).t; unfold I64; omega,fun d h => ⟨by have:=(hd d h).n.1; omega,fun s hs => by have:=(hd d h).n.2 s hs; omega⟩,fun d h => ⟨by have:=(hd d h).x.1; omega,fun s hs => by have:=(hd d h).x.2 s hs; omega⟩⟩
end
theorem ty_roomz : SliceTy Tryz.prog 26 88 2 40:=.mk' Tryz.underlying26 (z:=.agg #[.string ⟨#[]⟩,.slice none 0 0]) (by kernel_rfl) rfl (by decide)
theorem ty_doorm : SliceTy Tryz.prog 27 120 7 120:=.mk' Tryz.underlying27 (z:=.agg #[.string ⟨#[]⟩,.string ⟨#[]⟩,.string ⟨#[]⟩,.int .i64 0,.slice none 0 0,.slice none 0 0,.string ⟨#[]⟩]) (by kernel_rfl) rfl (by decide)
def names5 : List (List UInt8):=[[114,97],[114,98],[114,99],[114,100],[114,101]]
def SomeM (w : World) (g N : Nat) (S : List (List UInt8)) (e : Ending) (w' : World) : Prop:=∃ r : List UInt8,e = .returned (.string ⟨r.toArray⟩) ∧ r ∈ S ∧ Str w' g N ∧ w.grownBy w' (some g)
theorem some_names (g N b n : Nat) (w : World) (hs : Str w g N) (hN : N < 4611686018427387904) (hb : Blk w b 9 #[.string ⟨#[114,97]⟩,.string ⟨#[114,98]⟩,.string ⟨#[114,99]⟩,.string ⟨#[114,100]⟩,.string ⟨#[114,101]⟩]) (hg : g < b) (h0 : 1 ≤ n) (h5 : n ≤ 5) :
  Calls Tryz.prog 9 #[.pointer (some ⟨g,0,none⟩),.slice (some ⟨b,0,none⟩) n 5] w (SomeM w g (N + 1) (names5.take n)):=by
 have hr : Row w b 1 (some ⟨b,0,none⟩) 5 (strs names5):=Row.lit hb (Nat.le_refl _) rfl
 have hln : (names5.take n).length = n:=by simp [names5]; omega
 have hr2 : Row w b 1 (some ⟨b,0,none⟩) (names5.take n).length (strs (names5.take n)):=⟨by simp [strs],fun _ => by
  obtain ⟨b',off,e,h1,h2,h3⟩:=hr.2 (by decide);refine ⟨b',off,e,h1,h2,fun j u hu => h3 j u ?_⟩;unfold strs at hu ⊢;rw [List.map_take,List.getElem?_take] at hu
  by_cases hj : j < n
  ·rw [if_pos hj] at hu; exact hu
  ·rw [if_neg hj] at hu; cases hu⟩
 have:=some_any g N b (some ⟨b,0,none⟩) 5 (names5.take n) w hs hN hr2 hg (by omega) (by omega);rw [hln] at this;refine this.mono ?_;rintro e w' ⟨r,rfl,hm,h1,h2⟩;exact ⟨r,rfl,hm,h1,h2⟩
theorem some_litM (g N b : Nat) (cs : Array Value) (ss : List (List UInt8)) (w : World) (hs : Str w g N) (hN : N < 4611686018427387904) (hb : Blk w b 9 cs) (hc : cs.toList = strs ss) (hg : g < b) (h0 : 0 < ss.length) (h5 : ss.length ≤ 1000000) :
  Calls Tryz.prog 9 #[.pointer (some ⟨g,0,none⟩),.slice (some ⟨b,0,none⟩) ss.length ss.length] w (SomeM w g (N + 1) ss):=by
 have hr : Row w b 1 (some ⟨b,0,none⟩) ss.length (strs ss):=by
  have : cs.size = ss.length * 1:=by rw [← Array.length_toList,hc]; simp [strs]
  rw [← hc]; exact Row.lit hb (Nat.le_refl _) this
 refine (some_any g N b (some ⟨b,0,none⟩) ss.length ss w hs hN hr hg h0 h5).mono ?_;rintro e w' ⟨r,rfl,hm,h1,h2⟩;exact ⟨r,rfl,hm,h1,h2⟩
def SomeP (w : World) (g N k : Nat) (e : Ending) (w' : World) : Prop:=∃ r : List UInt8,e = .returned (.string ⟨r.toArray⟩) ∧ r.length ≤ k ∧ Str w' g N ∧ w.grownBy w' (some g)
theorem some_lit (g N b k : Nat) (cs : Array Value) (ss : List (List UInt8)) (w : World) (hs : Str w g N) (hN : N < 4611686018427387904) (hb : Blk w b 9 cs) (hc : cs.toList = strs ss) (hg : g < b) (h0 : 0 < ss.length) (h5 : ss.length ≤ 1000000) (hk : ∀ s ∈ ss,s.length ≤ k) :
  Calls Tryz.prog 9 #[.pointer (some ⟨g,0,none⟩),.slice (some ⟨b,0,none⟩) ss.length ss.length] w (SomeP w g (N + 1) k):=by
 refine (some_litM g N b cs ss w hs hN hb hc hg h0 h5).mono ?_;rintro e w' ⟨r,rfl,hm,h1,h2⟩;exact ⟨r,rfl,hk r hm,h1,h2⟩
theorem res_map (fn : Func) (q : Nat) (tmps : Array Value) (w : World) (m : Nat) (a b : Value) (c d : List UInt8) (X Y : Option Addr) (xn xc yn yc : Nat) (ha : a = .slice X xn xc) (hb : b = .slice Y yn yc) (e : fn.results = #[.cell q 29]) (hx : tmps.getD q undef = .pointer (some ⟨m,0,none⟩)) (f0 : w.cell? ⟨m,0,none⟩ = some a) (f1 : w.cell? ⟨m,1,none⟩ = some b) (f2 : w.cell? ⟨m,2,none⟩ = some (.string ⟨c.toArray⟩)) (f3 : w.cell? ⟨m,3,none⟩ = some (.string ⟨d.toArray⟩)) :
  (results fn tmps).run Tryz.prog w = .ok (.agg #[a,b,.string ⟨c.toArray⟩,.string ⟨d.toArray⟩]) w:=by
 have hx' : tmps[q]?.getD undef = .pointer (some ⟨m,0,none⟩):=by simpa using hx
 subst ha hb
 simp [results,e,hx',go_sem,f0,f1,f2,f3]
def RoomsG (rs : List RoomE) : Prop:=∀ k (h : k < rs.length),(rs[k]).key = names5.getD k [] ∧ (rs[k]).gives.Sublist thingsL
def tricksG : List (List UInt8):=[[],[],[],[99,108,105,112],[106,117,109,112],[119,97,114,112]]
structure DoorG (n k : Nat) (d : DoorE) : Prop where
  key : d.key = [100, UInt8.ofNat (48 + k)]
  src : d.src ∈ names5.take n
  dst : d.dst ∈ names5.take n
  time : d.time ∈ ([1, 2, 3, 3, 5, 9] : List Int)
  needs : d.needs.Sublist thingsL
  takes : d.takes.Sublist thingsL
  trick : d.trick ∈ tricksG
def DoorsG (n : Nat) (ds : List DoorE) : Prop:=∀ k (h : k < ds.length),DoorG n k ds[k]
theorem RoomsG.app {rs : List RoomE} {r : RoomE} (h : RoomsG rs) (hk : r.key = names5.getD rs.length []) (hg : r.gives.Sublist thingsL) : RoomsG (rs ++ [r]):=fun k hl => by
 by_cases h1 : k < rs.length
 ·rw [List.getElem_append_left h1]; exact h k h1
 ·have : k = rs.length:=by simp at hl; omega
  subst this;rw [List.getElem_append_right (Nat.le_refl _)]
  simpa using ⟨hk,hg⟩
theorem DoorsG.app {n : Nat} {ds : List DoorE} {d : DoorE} (h : DoorsG n ds) (hd : DoorG n ds.length d) : DoorsG n (ds ++ [d]):=fun k hl => by
 by_cases h1 : k < ds.length
 ·rw [List.getElem_append_left h1]; exact h k h1
 ·have : k = ds.length:=by simp at hl; omega
  subst this;rw [List.getElem_append_right (Nat.le_refl _)]
  simpa using hd
theorem things_b {l : List (List UInt8)} (h : l.Sublist thingsL) : l.length ≤ 10 ∧ ∀ s ∈ l,s.length ≤ 100:=by
 refine ⟨Nat.le_trans h.length_le (by decide),fun s hs => ?_⟩
 have h6 : ∀ s ∈ thingsL,s.length ≤ 100:=by decide
 exact h6 s (h.subset hs)
theorem names_b {n : Nat} {s : List UInt8} (h : s ∈ names5.take n) : s.length ≤ 2:=by
 have h6 : ∀ s ∈ names5,s.length ≤ 2:=by decide
 exact h6 s (List.mem_of_mem_take h)
theorem RoomsG.b {rs : List RoomE} (h : RoomsG rs) : ∀ r ∈ rs,RoomB r:=fun r hr => by
 obtain ⟨k,hk,rfl⟩:=List.mem_iff_getElem.1 hr;obtain ⟨h1,h2⟩:=h k hk;refine ⟨?_,things_b h2⟩
 have h6 : ∀ s ∈ names5,s.length ≤ 2:=by decide
 rw [h1,List.getD_eq_getElem?_getD]
 cases hq : names5[k]? with
 | none => simp
 | some x => have:=h6 x (List.mem_of_getElem? hq); show x.length ≤ 100; omega
theorem DoorsG.b {n : Nat} {ds : List DoorE} (h : DoorsG n ds) : ∀ d ∈ ds,DoorB d:=fun d hd => by
 obtain ⟨k,hk,rfl⟩:=List.mem_iff_getElem.1 hd;have hg:=h k hk
 have h6 : ∀ s ∈ tricksG,s.length ≤ 100:=by decide
 have h7 : ∀ x ∈ ([1,2,3,3,5,9] : List Int),1 ≤ x ∧ x ≤ 9:=by decide
 have h8:=h7 _ hg.time;refine ⟨⟨by rw [hg.key]; simp,by have:=names_b hg.src; omega,by have:=names_b hg.dst; omega,h6 _ hg.trick⟩,⟨by omega,by omega⟩,things_b hg.needs,things_b hg.takes⟩
def RgPost (w : World) (g N : Nat) (e : Ending) (w' : World) : Prop:=∃ (A : Option Addr) (ca : Nat) (rs : List RoomE) (D : Option Addr) (cd : Nat) (ds : List DoorE) (st gl : List UInt8),e = .returned (.agg #[.slice A rs.length ca,.slice D ds.length cd,.string ⟨st.toArray⟩,.string ⟨gl.toArray⟩]) ∧ MapO w' w.heap.size A ca rs D cd ds ∧ RoomsG rs ∧ DoorsG rs.length ds ∧ 2 ≤ rs.length ∧ rs.length ≤ 5 ∧ 1 ≤ ds.length ∧ ds.length ≤ 9 ∧ st ∈ names5.take rs.length ∧ gl ∈ names5.take rs.length ∧ Str w' g N ∧ w.grownBy w' (some g)
def RmPost (w : World) (g N : Nat) (e : Ending) (w' : World) : Prop:=∃ (A : Option Addr) (ca : Nat) (rs : List RoomE) (D : Option Addr) (cd : Nat) (ds : List DoorE) (st gl : List UInt8),e = .returned (.agg #[.slice A rs.length ca,.slice D ds.length cd,.string ⟨st.toArray⟩,.string ⟨gl.toArray⟩]) ∧ MapO w' w.heap.size A ca rs D cd ds ∧ (∀ r ∈ rs,RoomB r) ∧ (∀ d ∈ ds,DoorB d) ∧ 1 ≤ rs.length ∧ rs.length ≤ 5 ∧ 1 ≤ ds.length ∧ ds.length ≤ 9 ∧ st.length ≤ 100 ∧ gl.length ≤ 100 ∧ Str w' g N ∧ w.grownBy w' (some g)
structure RmC (w W : World) (g N mb : Nat) (box : Array Value) : Prop where
  s : Str W g N
  gr : w.grownBy W (some g)
  nm : Blk W (w.heap.size + 1) 9 #[.string ⟨#[114, 97]⟩, .string ⟨#[114, 98]⟩, .string ⟨#[114, 99]⟩, .string ⟨#[114, 100]⟩, .string ⟨#[114, 101]⟩]
  res : Blk W w.heap.size 29 #[.slice none 0 0, .slice none 0 0, .string ⟨#[]⟩, .string ⟨#[]⟩]
  box : Blk W mb 29 box
section
variable {w W W' : World} {g N N' mb : Nat} {box : Array Value}
theorem RmC.below (h : RmC w W g N mb box) (hb : Below W.heap.size W W') : RmC w W' g N mb box:=⟨h.s.keep hb,grown_trans' h.gr (grown_of_below hb _),h.nm.below hb,h.res.below hb,h.box.below hb⟩
theorem RmC.alloc (h : RmC w W g N mb box) (o : Obj) : RmC w (W.alloc o) g N mb box:=h.below ((Below.refl _ _).alloc (Nat.le_refl _) o)
theorem RmC.drew (h : RmC w W g N mb box) : RmC w W.drew g N mb box:=h.below (below_drewN' (Below.refl _ _) 1)
theorem RmC.str (h : RmC w W g N mb box) (hg : g < w.heap.size) (hm : g < mb) (hs : Str W' g N') (hb : W.grownBy W' (some g)) : RmC w W' g N' mb box:=⟨hs,grown_trans' h.gr hb,h.nm.grown hb (by omega),h.res.grown hb (by omega),h.box.grown hb (by omega)⟩
theorem RmC.app (h : RmC w W g N mb box) {base size n : Nat} {e : TypeId} {v : Value} {xs : List Value} (hown : W.ownsRow base e size v n xs) (hg : W.grownBy W' v.ownBlock) (hb : g < base) (hb2 : w.heap.size ≤ base) (h1 : e ≠ 9) (h2 : e ≠ 29) : RmC w W' g N mb box :=
 ⟨h.s.app hown hg hb,grown_app h.gr hown hg hb2,Blk.app hown h.nm hg h1,Blk.app hown h.res hg h2,Blk.app hown h.box hg h2⟩
theorem RmC.set (h : RmC w W g N mb box) (hg : g < w.heap.size) (hm : w.heap.size + 2 ≤ mb) (i : Nat) (u : Value) : RmC w (W.setCell ⟨mb,i,none⟩ u) g N mb (box.setIfInBounds i u) :=
 ⟨h.s.set (by simp; omega) _,grown_set_new h.gr (by simp; omega) _,h.nm.past mb i u (by omega),h.res.past mb i u (by omega),h.box.poke i u⟩
theorem RmC.setX (h : RmC w W g N mb box) {k : Nat} (hk : mb < k) (hm : w.heap.size + 2 ≤ mb) (hg : g < w.heap.size) (i : Nat) (u : Value) : RmC w (W.setCell ⟨k,i,none⟩ u) g N mb box :=
 ⟨h.s.set (by simp; omega) _,grown_set_new h.gr (by simp; omega) _,h.nm.past k i u (by omega),h.res.past k i u (by omega),h.box.past k i u (by omega)⟩
theorem RmC.more (h : RmC w W g N mb box) (hN : N ≤ N') : RmC w W g N' mb box:=⟨h.s.more hN,h.gr,h.nm,h.res,h.box⟩
end
set_option maxHeartbeats 8000000 in
set_option maxRecDepth 100000 in
theorem rightMapG_any (g N : Nat) (w : World) (hs : Str w g N) (hN : N < 4611686018427380000) :
  Calls Tryz.prog 112 #[.pointer (some ⟨g,0,none⟩)] w (RgPost w g (N + 200)):=by
 have hlt:=hs.lt;have hgr0 : w.grownBy ((w.alloc (.cells #[.slice none 0 0,.slice none 0 0,.string ⟨#[]⟩,.string ⟨#[]⟩] 29)).alloc (.cells #[.string ⟨#[114,97]⟩,.string ⟨#[114,98]⟩,.string ⟨#[114,99]⟩,.string ⟨#[114,100]⟩,.string ⟨#[114,101]⟩] 9)) (some g):=grown_alloc (World.grownBy_alloc _ _ _) _;have hs0:=(hs.alloc (.cells #[.slice none 0 0,.slice none 0 0,.string ⟨#[]⟩,.string ⟨#[]⟩] 29)).alloc (.cells #[.string ⟨#[114,97]⟩,.string ⟨#[114,98]⟩,.string ⟨#[114,99]⟩,.string ⟨#[114,100]⟩,.string ⟨#[114,101]⟩] 9);have hres0 : Blk ((w.alloc (.cells #[.slice none 0 0,.slice none 0 0,.string ⟨#[]⟩,.string ⟨#[]⟩] 29)).alloc (.cells #[.string ⟨#[114,97]⟩,.string ⟨#[114,98]⟩,.string ⟨#[114,99]⟩,.string ⟨#[114,100]⟩,.string ⟨#[114,101]⟩] 9)) w.heap.size 29 #[.slice none 0 0,.slice none 0 0,.string ⟨#[]⟩,.string ⟨#[]⟩]:=(Blk.new _ _ _).alloc _;have hnm0 : Blk ((w.alloc (.cells #[.slice none 0 0,.slice none 0 0,.string ⟨#[]⟩,.string ⟨#[]⟩] 29)).alloc (.cells #[.string ⟨#[114,97]⟩,.string ⟨#[114,98]⟩,.string ⟨#[114,99]⟩,.string ⟨#[114,100]⟩,.string ⟨#[114,101]⟩] 9)) (w.heap.size + 1) 9 #[.string ⟨#[114,97]⟩,.string ⟨#[114,98]⟩,.string ⟨#[114,99]⟩,.string ⟨#[114,100]⟩,.string ⟨#[114,101]⟩]:=Blk.at_ _ (by simp)
 go_enter Tryz.func112,Tryz.ntmps112
 go_wp2_with fail;generalize ((w.alloc (.cells #[.slice none 0 0,.slice none 0 0,.string ⟨#[]⟩,.string ⟨#[]⟩] 29)).alloc (.cells #[.string ⟨#[114,97]⟩,.string ⟨#[114,98]⟩,.string ⟨#[114,99]⟩,.string ⟨#[114,100]⟩,.string ⟨#[114,101]⟩] 9)) = w0 at *;refine (range_any g N _ _ _ hs0 (by omega) (by omega) (by omega) (by omega)).mono ?_;rintro e w1 ⟨r1,rfl,h0,h1,hs1,hg1⟩;obtain ⟨n,rfl⟩:=Int.eq_ofNat_of_zero_le (show 0 ≤ r1 by omega)
 have hr1 : RmC w (w1.alloc (.cells #[.slice none 0 0,.slice none 0 0,.string ⟨#[]⟩,.string ⟨#[]⟩] 29)) g (N + 1) w1.heap.size #[.slice none 0 0,.slice none 0 0,.string ⟨#[]⟩,.string ⟨#[]⟩]:=⟨hs1.alloc _,grown_alloc (grown_trans' hgr0 hg1) _,(hnm0.grown hg1 (by omega)).alloc _,(hres0.grown hg1 (by omega)).alloc _,Blk.new _ _ _⟩
 have hmb : w.heap.size + 2 ≤ w1.heap.size:=by have:=(hnm0.grown hg1 (by omega)).lt; omega
 have hn0 : (0 : Int) ≤ (n : Int):=by omega
 have hn5 : (n : Int) ≤ 5:=by omega
 have hn2 : 2 ≤ n:=by omega
 have hn5' : n ≤ 5:=by omega
 clear hgr0 hs0 hres0 hnm0 hs1 hg1 h0 h1;go_wp2_with fail;generalize w1.alloc (.cells #[.slice none 0 0,.slice none 0 0,.string ⟨#[]⟩,.string ⟨#[]⟩] 29) = w2 at *;generalize w1.heap.size = mb at *
 go_loopw [15] (fun i wr => ∃ (A5 : Option Addr) (c5 : Nat) (rs : List RoomE),rs.length ≤ n ∧ i = .int .i64 rs.length ∧ RmC w wr g (N + 1 + 3 * rs.length) mb #[.slice A5 rs.length c5,.slice none 0 0,.string ⟨#[]⟩,.string ⟨#[]⟩] ∧ MapO wr (mb + 1) A5 c5 rs none 0 [] ∧ Hid (RoomsG rs)) (fun i _ => n - (intOf i).toNat)
 case atStart => exact ⟨none,0,[],by simp,rfl,hr1,⟨World.ownsRow_nil _ _ _ _,World.ownsRow_nil _ _ _ _,fun q hq => by simp [rlists] at hq,fun q hq => by simp [dlists] at hq⟩,Lib.hid (fun k h => absurd h (by simp))⟩
 case round =>
  clear hr1;obtain ⟨A5,c5,rs,hk,rfl,hr,hm,HB⟩:=hrel;have zmb:=hr.box.lt
  by_cases hkn : rs.length < n
  ·have hrow : Row wr (w.heap.size + 1) 1 (some ⟨w.heap.size + 1,0,none⟩) 5 (strs names5):=Row.lit hr.nm (Nat.le_refl _) rfl
   obtain ⟨b,off,he,hbs,hcell⟩:=strs_at (l:=names5) hrow (k:=rs.length) (show rs.length < 5 by omega);injection he with he;injection he with e1 e2;subst e1 e2;have y0:=hcell rs.length (show rs.length < 5 by omega);have HTL : Hid (names5[rs.length]'(show rs.length < 5 by omega) = names5.getD rs.length []):=Lib.hid (by rw [List.getD_eq_getElem?_getD,List.getElem?_eq_getElem (show rs.length < names5.length from (show rs.length < 5 by omega))]; rfl);rw [Nat.zero_add] at y0;clear hcell hrow;generalize names5[rs.length]'(show rs.length < 5 by omega) = x at *;simp only [encStr] at y0;go_upto_region 6 with (fail);clear y0;have hrd:=hr.drew;have hmd:=hm.drew;clear hr hm;have m0:=hrd.box.cell 0;simp only [Q0,Q2,Q1] at m0;have m0' : wr.cell? ⟨mb,0,none⟩ = some (.slice A5 rs.length c5):=m0;refine wp_region_held_drew (S:=(fun _ => True)) (by kernel_rfl) (trivial) (fun hHeld => ?_);(refine QU 0 ?_; (try simp only [Act.put,Q3,Q4,Q5]));(refine QU 2 ?_; (try simp only [Act.put,Q3,Q4,Q5]));(refine QU 3 ?_; (try simp only [Act.put,Q3,Q4,Q5]));refine wpAnyH_ready (rs:=[1,4]) (by kernel_rfl) (by simp) ?_;refine AllReadyH.cons rfl (fun K hK => ?_) (AllReadyH.cons rfl (fun K hK => ?_) AllReadyH.nil)
   case refine_1 =>
    go_simp;refine hK.out _ _ (trivial) (fun hHeld => ?_);clear hK K;(try simp only [Act.put,Q3,Q4,Q5]);refine QR 4 fun K hK => ?_;go_simp;go_at_call 151;refine (thingList_any g _ 6 _ hrd.s (by omega) (by omega)).mono ?_;rintro e w7 ⟨A7,c7,l7,rfl,ho7,hl7,hb7,hsu7,hs7,hg7⟩;replace hrd:=hrd.str hlt (by omega) hs7 hg7;replace hmd:=hmd.grown hg7 (by omega);have zm7:=hrd.box.lt;have zz7:=hg7.size;have hlo : LstO w7 (mb + 1) (A7,l7,c7):=own_weak ho7 (show mb + 1 ≤ _ by simp; omega);have HSU:=Lib.hid hsu7;have m0:=hrd.box.cell 0;simp only [Q0,Q2,Q1] at m0;clear ho7 hb7 hsu7 hs7 hg7;go_wp2_with fail;refine hK.out _ _ (trivial) (fun hHeld => ?_);clear hK K;(try simp only [Act.put,Q3,Q4,Q5]);(refine QU 5 ?_; (try simp only [Act.put,Q3,Q4,Q5]));refine QR 6 fun K hK => ?_;go_simp;replace hrd:=hrd.alloc (.cells #[.string ⟨x.toArray⟩,.slice A7 l7.length c7] 88);replace hmd:=hmd.alloc (.cells #[.string ⟨x.toArray⟩,.slice A7 l7.length c7] 88);replace hlo:=hlo.alloc (.cells #[.string ⟨x.toArray⟩,.slice A7 l7.length c7] 88);have m0:=hrd.box.cell 0;simp only [Q0,Q2,Q1] at m0;refine hK.out _ _ (trivial) (fun hHeld => ?_);clear hK K;(try simp only [Act.put,Q3,Q4,Q5]);refine QR 7 fun K hK => ?_;refine step_app (lo:=mb + 1) (base:=mb + 1) (n:=rs.length) (xs:=rs.flatMap encR) _ rfl _ _ ty_roomz rfl hmd.rooms rfl (by first | exact row_new' _ (by first | rfl | simp) (by first | omega | (simp; omega)) rfl | exact row_newN _ _ (by first | rfl | simp) (by first | omega | (simp; omega)) rfl | exact row_newD _ (by first | rfl | simp) (by first | omega | (simp; omega)) rfl) rfl rfl (by omega) (by omega) (by first | omega | (simp; omega)) ?_;intro A8 c8 w8 hown8 hg8 _
    have hown8 : w8.ownsRow (mb + 1) 88 2 (.slice A8 (rs ++ [(⟨x,l7,A7,c7⟩ : RoomE)]).length c8) (rs ++ [(⟨x,l7,A7,c7⟩ : RoomE)]).length ((rs ++ [(⟨x,l7,A7,c7⟩ : RoomE)]).flatMap encR):=by simpa [encR,encStr] using hown8
    have HR8:=Lib.hid (hrd.app hmd.rooms hg8 (by omega) (by omega) (by decide) (by decide));have HM8:=Lib.hid (hmd.appR hg8 hown8 hlo);have m0:=HR8.out.box.cell 0;simp only [Q0,Q2,Q1] at m0;have f0:=HR8.out.box.thaw 0;have z8:=HR8.out.box.lt;clear hown8 hg8 hrd hmd hlo;refine hK.out _ _ (trivial) (fun hHeld => ?_);clear hK K;(try simp only [Act.put,Q3,Q4,Q5]);(refine QU 8 ?_; (try simp only [Act.put,Q3,Q4,Q5]));refine QR 9 fun K hK => ?_;go_simp;have hr9:=HR8.out.set hlt hmb 0 (.slice A8 (rs.length + 1) c8);have hm9:=HM8.out.box HR8.out.box (by decide) (by decide) (by decide) 0 (.slice A8 (rs.length + 1) c8);refine hK.out _ _ (trivial) (fun hHeld => ?_);clear hK K;(try simp only [Act.put,Q3,Q4,Q5]);refine wpAnyH_done (by kernel_rfl) ?_ _;have HBB : Hid (RoomsG (rs ++ [(⟨x,l7,A7,c7⟩ : RoomE)])):=Lib.hid (HB.out.app HTL.out HSU.out);have HR9:=Lib.hid hr9;have HM9:=Lib.hid hm9
    have hrl : (rs ++ [(⟨x,l7,A7,c7⟩ : RoomE)]).length = rs.length + 1:=by simp
    have HRL:=Lib.hid hrl;clear hr9 hm9 hrl m0 f0;go_wp2_with fail;go_roundw
    case rel => exact ⟨A8,c8,rs ++ [(⟨x,l7,A7,c7⟩ : RoomE)],by rw [HRL.out]; omega,by rw [HRL.out]; go_num,by rw [HRL.out]; exact (by simpa using HR9.out.more (show N + 1 + 3 * rs.length + 3 ≤ N + 1 + 3 * (rs.length + 1) by omega)),HM9.out,HBB⟩
    case measure => simp [intOf]; omega
   case refine_2 =>
    go_simp;go_at_call 151;refine (thingList_any g _ 6 _ hrd.s (by omega) (by omega)).mono ?_;rintro e w7 ⟨A7,c7,l7,rfl,ho7,hl7,hb7,hsu7,hs7,hg7⟩;replace hrd:=hrd.str hlt (by omega) hs7 hg7;replace hmd:=hmd.grown hg7 (by omega);have zm7:=hrd.box.lt;have zz7:=hg7.size;have hlo : LstO w7 (mb + 1) (A7,l7,c7):=own_weak ho7 (show mb + 1 ≤ _ by simp; omega);have HSU:=Lib.hid hsu7;have m0:=hrd.box.cell 0;simp only [Q0,Q2,Q1] at m0;clear ho7 hb7 hsu7 hs7 hg7;go_wp2_with fail;refine hK.out _ _ (trivial) (fun hHeld => ?_);clear hK K;(try simp only [Act.put,Q3,Q4,Q5]);(refine QU 5 ?_; (try simp only [Act.put,Q3,Q4,Q5]));refine wpAnyH_ready (rs:=[1,6]) (by kernel_rfl) (by simp) ?_;refine AllReadyH.cons rfl (fun K hK => ?_) (AllReadyH.cons rfl (fun K hK => ?_) AllReadyH.nil)
    case refine_1 =>
     go_simp;refine hK.out _ _ (trivial) (fun hHeld => ?_);clear hK K;(try simp only [Act.put,Q3,Q4,Q5]);refine QR 6 fun K hK => ?_;go_simp;replace hrd:=hrd.alloc (.cells #[.string ⟨x.toArray⟩,.slice A7 l7.length c7] 88);replace hmd:=hmd.alloc (.cells #[.string ⟨x.toArray⟩,.slice A7 l7.length c7] 88);replace hlo:=hlo.alloc (.cells #[.string ⟨x.toArray⟩,.slice A7 l7.length c7] 88);have m0:=hrd.box.cell 0;simp only [Q0,Q2,Q1] at m0;refine hK.out _ _ (trivial) (fun hHeld => ?_);clear hK K;(try simp only [Act.put,Q3,Q4,Q5]);refine QR 7 fun K hK => ?_;refine step_app (lo:=mb + 1) (base:=mb + 1) (n:=rs.length) (xs:=rs.flatMap encR) _ rfl _ _ ty_roomz rfl hmd.rooms rfl (by first | exact row_new' _ (by first | rfl | simp) (by first | omega | (simp; omega)) rfl | exact row_newN _ _ (by first | rfl | simp) (by first | omega | (simp; omega)) rfl | exact row_newD _ (by first | rfl | simp) (by first | omega | (simp; omega)) rfl) rfl rfl (by omega) (by omega) (by first | omega | (simp; omega)) ?_;intro A8 c8 w8 hown8 hg8 _
     have hown8 : w8.ownsRow (mb + 1) 88 2 (.slice A8 (rs ++ [(⟨x,l7,A7,c7⟩ : RoomE)]).length c8) (rs ++ [(⟨x,l7,A7,c7⟩ : RoomE)]).length ((rs ++ [(⟨x,l7,A7,c7⟩ : RoomE)]).flatMap encR):=by simpa [encR,encStr] using hown8
     have HR8:=Lib.hid (hrd.app hmd.rooms hg8 (by omega) (by omega) (by decide) (by decide));have HM8:=Lib.hid (hmd.appR hg8 hown8 hlo);have m0:=HR8.out.box.cell 0;simp only [Q0,Q2,Q1] at m0;have f0:=HR8.out.box.thaw 0;have z8:=HR8.out.box.lt;clear hown8 hg8 hrd hmd hlo;refine hK.out _ _ (trivial) (fun hHeld => ?_);clear hK K;(try simp only [Act.put,Q3,Q4,Q5]);(refine QU 8 ?_; (try simp only [Act.put,Q3,Q4,Q5]));refine QR 9 fun K hK => ?_;go_simp;have hr9:=HR8.out.set hlt hmb 0 (.slice A8 (rs.length + 1) c8);have hm9:=HM8.out.box HR8.out.box (by decide) (by decide) (by decide) 0 (.slice A8 (rs.length + 1) c8);refine hK.out _ _ (trivial) (fun hHeld => ?_);clear hK K;(try simp only [Act.put,Q3,Q4,Q5]);refine wpAnyH_done (by kernel_rfl) ?_ _;have HBB : Hid (RoomsG (rs ++ [(⟨x,l7,A7,c7⟩ : RoomE)])):=Lib.hid (HB.out.app HTL.out HSU.out);have HR9:=Lib.hid hr9;have HM9:=Lib.hid hm9
     have hrl : (rs ++ [(⟨x,l7,A7,c7⟩ : RoomE)]).length = rs.length + 1:=by simp
     have HRL:=Lib.hid hrl;clear hr9 hm9 hrl m0 f0;go_wp2_with fail;go_roundw
     case rel => exact ⟨A8,c8,rs ++ [(⟨x,l7,A7,c7⟩ : RoomE)],by rw [HRL.out]; omega,by rw [HRL.out]; go_num,by rw [HRL.out]; exact (by simpa using HR9.out.more (show N + 1 + 3 * rs.length + 3 ≤ N + 1 + 3 * (rs.length + 1) by omega)),HM9.out,HBB⟩
     case measure => simp [intOf]; omega
    case refine_2 =>
     go_simp;replace hrd:=hrd.alloc (.cells #[.string ⟨x.toArray⟩,.slice A7 l7.length c7] 88);replace hmd:=hmd.alloc (.cells #[.string ⟨x.toArray⟩,.slice A7 l7.length c7] 88);replace hlo:=hlo.alloc (.cells #[.string ⟨x.toArray⟩,.slice A7 l7.length c7] 88);have m0:=hrd.box.cell 0;simp only [Q0,Q2,Q1] at m0;refine hK.out _ _ (trivial) (fun hHeld => ?_);clear hK K;(try simp only [Act.put,Q3,Q4,Q5]);refine QR 1 fun K hK => ?_;go_simp;refine hK.out _ _ (trivial) (fun hHeld => ?_);clear hK K;(try simp only [Act.put,Q3,Q4,Q5]);refine QR 7 fun K hK => ?_;refine step_app (lo:=mb + 1) (base:=mb + 1) (n:=rs.length) (xs:=rs.flatMap encR) _ rfl _ _ ty_roomz rfl hmd.rooms rfl (by first | exact row_new' _ (by first | rfl | simp) (by first | omega | (simp; omega)) rfl | exact row_newN _ _ (by first | rfl | simp) (by first | omega | (simp; omega)) rfl | exact row_newD _ (by first | rfl | simp) (by first | omega | (simp; omega)) rfl) rfl rfl (by omega) (by omega) (by first | omega | (simp; omega)) ?_;intro A8 c8 w8 hown8 hg8 _
     have hown8 : w8.ownsRow (mb + 1) 88 2 (.slice A8 (rs ++ [(⟨x,l7,A7,c7⟩ : RoomE)]).length c8) (rs ++ [(⟨x,l7,A7,c7⟩ : RoomE)]).length ((rs ++ [(⟨x,l7,A7,c7⟩ : RoomE)]).flatMap encR):=by simpa [encR,encStr] using hown8
     have HR8:=Lib.hid (hrd.app hmd.rooms hg8 (by omega) (by omega) (by decide) (by decide));have HM8:=Lib.hid (hmd.appR hg8 hown8 hlo);have m0:=HR8.out.box.cell 0;simp only [Q0,Q2,Q1] at m0;have f0:=HR8.out.box.thaw 0;have z8:=HR8.out.box.lt;clear hown8 hg8 hrd hmd hlo;refine hK.out _ _ (trivial) (fun hHeld => ?_);clear hK K;(try simp only [Act.put,Q3,Q4,Q5]);(refine QU 8 ?_; (try simp only [Act.put,Q3,Q4,Q5]));refine QR 9 fun K hK => ?_;go_simp;have hr9:=HR8.out.set hlt hmb 0 (.slice A8 (rs.length + 1) c8);have hm9:=HM8.out.box HR8.out.box (by decide) (by decide) (by decide) 0 (.slice A8 (rs.length + 1) c8);refine hK.out _ _ (trivial) (fun hHeld => ?_);clear hK K;(try simp only [Act.put,Q3,Q4,Q5]);refine wpAnyH_done (by kernel_rfl) ?_ _;have HBB : Hid (RoomsG (rs ++ [(⟨x,l7,A7,c7⟩ : RoomE)])):=Lib.hid (HB.out.app HTL.out HSU.out);have HR9:=Lib.hid hr9;have HM9:=Lib.hid hm9
     have hrl : (rs ++ [(⟨x,l7,A7,c7⟩ : RoomE)]).length = rs.length + 1:=by simp
     have HRL:=Lib.hid hrl;clear hr9 hm9 hrl m0 f0;go_wp2_with fail;go_roundw
     case rel => exact ⟨A8,c8,rs ++ [(⟨x,l7,A7,c7⟩ : RoomE)],by rw [HRL.out]; omega,by rw [HRL.out]; go_num,by rw [HRL.out]; exact (by simpa using HR9.out.more (show N + 1 + 3 * rs.length + 3 ≤ N + 1 + 3 * (rs.length + 1) by omega)),HM9.out,HBB⟩
     case measure => simp [intOf]; omega
  ·have hke : rs.length = n:=by omega
   have HKE:=Lib.hid hke
   have hrs5 : rs.length ≤ 5:=by omega
   clear hke hk;go_wp2_with fail;refine (range_any g _ _ _ _ hr.s (by omega) (by omega) (by omega) (by omega)).mono ?_;rintro e w3 ⟨r3,rfl,h0,h1,hs3,hg3⟩;obtain ⟨m2,rfl⟩:=Int.eq_ofNat_of_zero_le (show 0 ≤ r3 by omega);have hr3 : RmC w w3 g (N + 17) mb #[.slice A5 rs.length c5,.slice none 0 0,.string ⟨#[]⟩,.string ⟨#[]⟩]:=(hr.str hlt (by omega) hs3 hg3).more (by omega);have hm3:=hm.grown hg3 (by omega)
   have h9 : m2 ≤ 9:=by omega
   have h1m : 1 ≤ m2:=by omega
   clear hr hm hs3 hg3 h0 h1;go_wp2_with fail
   go_loopw [31] (fun i wr => ∃ (D5 : Option Addr) (d5 : Nat) (ds : List DoorE),ds.length ≤ m2 ∧ i = .int .i64 ds.length ∧ RmC w wr g (N + 17 + 10 * ds.length) mb #[.slice A5 rs.length c5,.slice D5 ds.length d5,.string ⟨#[]⟩,.string ⟨#[]⟩] ∧ MapO wr (mb + 1) A5 c5 rs D5 d5 ds ∧ Hid (DoorsG n ds)) (fun i _ => m2 - (intOf i).toNat)
   case atStart => exact ⟨none,0,[],by simp,rfl,hr3,hm3,Lib.hid (fun k h => absurd h (by simp))⟩
   case round =>
    clear hr3 hm3 zmb;obtain ⟨D5,d5,ds,hk,rfl,hr,hm,HD⟩:=hrel;have zmb:=hr.box.lt
    by_cases hkn : ds.length < m2
    ·go_wp2_with fail
     refine (itoa9_any ds.length (by omega) _).mono ?_;rintro e w4 ⟨s,rfl,hsl,rfl⟩
     have hcc : ¬ (9223372036854775807 < 1 + s.length):=by rw [hsl]; simp
     obtain ⟨key,hkey,hkl⟩ : ∃ key : List UInt8,(⟨#[100]⟩ ++ ⟨s.toArray⟩ : ByteArray) = ⟨key.toArray⟩ ∧ key = [100,UInt8.ofNat (48 + ds.length)]:=⟨100 :: s,by apply ByteArray.ext; simp [ByteArray.data_append],by rw [hsl]⟩
     have HKL:=Lib.hid hkl;have HKY:=Lib.hid hkey;clear hkey hkl hsl;go_wp2_with fail;simp only [HKY.out];have hkk:=hr.nm;refine (some_names g _ (w.heap.size + 1) n _ hr.s (by omega) hr.nm (by omega) (by omega) hn5').mono ?_;rintro e w5 ⟨src,rfl,hsrc,hs5,hg5⟩;clear hkk hcc;have HSRC:=Lib.hid hsrc;clear hsrc;replace hr:=hr.str hlt (by omega) hs5 hg5;replace hm:=hm.grown hg5 (by omega);clear hs5 hg5;go_wp2_with fail;refine (some_names g _ (w.heap.size + 1) n _ hr.s (by omega) hr.nm (by omega) (by omega) hn5').mono ?_;rintro e w6 ⟨dst,rfl,hdst,hs6,hg6⟩;replace hr:=hr.str hlt (by omega) hs6 hg6;replace hm:=hm.grown hg6 (by omega);clear hs6 hg6;have HDST:=Lib.hid hdst;clear hdst;go_wp2_with fail;refine (pick_any g _ _ _ _ [1,2,3,3,5,9] _ (hr.s.alloc _) (by omega) (row_new _ _ _ _ _ _ (Nat.le_refl _) rfl) hr.s.lt (by simp) (by simp)).mono ?_;rintro e w7 ⟨tm,rfl,htm,hs7,hg7⟩;have HTM:=Lib.hid htm;replace hr:=(hr.alloc (.cells #[.int .i64 1,.int .i64 2,.int .i64 3,.int .i64 3,.int .i64 5,.int .i64 9] 3)).str hlt (by omega) hs7 hg7;replace hm:=(hm.alloc (.cells #[.int .i64 1,.int .i64 2,.int .i64 3,.int .i64 3,.int .i64 5,.int .i64 9] 3)).grown hg7 (by omega);clear hs7 hg7 htm;have zmb7:=hr.box.lt;have hdb:=Blk.new w7 120 #[.string ⟨key.toArray⟩,.string ⟨src.toArray⟩,.string ⟨dst.toArray⟩,.int .i64 tm,.slice none 0 0,.slice none 0 0,.string ⟨#[]⟩];have hdo : Hid (∀ b,(Value.slice D5 ds.length d5).ownBlock = some b → b ≠ w7.heap.size):=Lib.hid (fun b hb => Nat.ne_of_lt (hm.doors.lt b hb).2);have hdm : mb < w7.heap.size:=zmb7;have hgm : g < w7.heap.size:=hr.s.lt;replace hr:=hr.alloc (.cells #[.string ⟨key.toArray⟩,.string ⟨src.toArray⟩,.string ⟨dst.toArray⟩,.int .i64 tm,.slice none 0 0,.slice none 0 0,.string ⟨#[]⟩] 120);replace hm:=hm.alloc (.cells #[.string ⟨key.toArray⟩,.string ⟨src.toArray⟩,.string ⟨dst.toArray⟩,.int .i64 tm,.slice none 0 0,.slice none 0 0,.string ⟨#[]⟩] 120);go_upto_region 12 with (fail);generalize w7.alloc (.cells #[.string ⟨key.toArray⟩,.string ⟨src.toArray⟩,.string ⟨dst.toArray⟩,.int .i64 tm,.slice none 0 0,.slice none 0 0,.string ⟨#[]⟩] 120) = w8 at *;generalize w7.heap.size = db at *;go_wp2_with fail;refine (thingList_any g _ 6 _ hr.s (by omega) (by omega)).mono ?_;rintro e w9 ⟨A7,c7,l7,rfl,ho7,hl7,-,hb7,hs7,hg7⟩;replace hr:=hr.str hlt (by omega) hs7 hg7;replace hm:=hm.grown hg7 (by omega);have zz8:=hdb.lt;replace hdb:=hdb.grown hg7 (by omega);have hlo7 : LstO w9 (mb + 1) (A7,l7,c7):=own_weak ho7 (by omega);have HB7:=Lib.hid hb7;clear ho7 hs7 hg7 hb7 zz8;go_wp2_with fail;refine (thingList_any g _ 9 _ hr.s (by omega) (by omega)).mono ?_;rintro e w10 ⟨A8,c8,l8,rfl,ho8,hl8,-,hb8,hs8,hg8⟩;replace hr:=hr.str hlt (by omega) hs8 hg8;replace hm:=hm.grown hg8 (by omega);have zz8:=hdb.lt;replace hdb:=hdb.grown hg8 (by omega);have hlo8 : LstO w10 (mb + 1) (A8,l8,c8):=own_weak ho8 (by omega);replace hlo7 : LstO w10 (mb + 1) (A7,l7,c7):=own_grown hlo7 hg8 (by omega);have HB8:=Lib.hid hb8;clear ho8 hs8 hg8 hb8 zz8;obtain ⟨q0,q1,q2,q3,q4,q5,q6⟩:=hdb.w7;have f4:=hdb.thaw 4;have f5:=hdb.thaw 5;have zdb:=hdb.lt;have hr2:=(hr.setX hdm hmb hlt 4 (.slice A7 l7.length c7)).setX hdm hmb hlt 5 (.slice A8 l8.length c8);have hdb1:=hdb.poke 4 (.slice A7 l7.length c7);have hdb2:=hdb1.poke 5 (.slice A8 l8.length c8);have hm2:=(hm.setDb hdb hdo.out 4 (.slice A7 l7.length c7)).setDb hdb1 hdo.out 5 (.slice A8 l8.length c8);have hlo72 : LstO ((w10.setCell ⟨db,4,none⟩ (.slice A7 l7.length c7)).setCell ⟨db,5,none⟩ (.slice A8 l8.length c8)) (mb + 1) (A7,l7,c7):=own_past (own_past hlo7 hdb (by decide) 4 _) hdb1 (by decide) 5 _;have hlo82 : LstO ((w10.setCell ⟨db,4,none⟩ (.slice A7 l7.length c7)).setCell ⟨db,5,none⟩ (.slice A8 l8.length c8)) (mb + 1) (A8,l8,c8):=own_past (own_past hlo8 hdb (by decide) 4 _) hdb1 (by decide) 5 _;clear hr hdb hm hlo7 hlo8 hdb1;go_upto_region 13 with (fail);generalize ((w10.setCell ⟨db,4,none⟩ (.slice A7 l7.length c7)).setCell ⟨db,5,none⟩ (.slice A8 l8.length c8)) = w11 at *
     have hdb2 : Blk w11 db 120 #[.string ⟨key.toArray⟩,.string ⟨src.toArray⟩,.string ⟨dst.toArray⟩,.int .i64 tm,.slice A7 l7.length c7,.slice A8 l8.length c8,.string ⟨#[]⟩]:=by simpa using hdb2
     clear q0 q1 q2 q3 q4 q5 q6 f4 f5 zdb;have zdb:=hdb2.lt;go_wp2_with fail;refine (some_litM g _ w11.heap.size #[.string ⟨#[]⟩,.string ⟨#[]⟩,.string ⟨#[]⟩,.string ⟨#[99,108,105,112]⟩,.string ⟨#[106,117,109,112]⟩,.string ⟨#[119,97,114,112]⟩] [[],[],[],[99,108,105,112],[106,117,109,112],[119,97,114,112]] _ (hr2.s.alloc _) (by omega) (Blk.new _ _ _) rfl hr2.s.lt (by decide) (by decide)).mono ?_;rintro e w12 ⟨trk,rfl,htrk,hs12,hg12⟩;replace hr2:=(hr2.alloc (.cells #[.string ⟨#[]⟩,.string ⟨#[]⟩,.string ⟨#[]⟩,.string ⟨#[99,108,105,112]⟩,.string ⟨#[106,117,109,112]⟩,.string ⟨#[119,97,114,112]⟩] 9)).str hlt (by omega) hs12 hg12;replace hm2:=(hm2.alloc (.cells #[.string ⟨#[]⟩,.string ⟨#[]⟩,.string ⟨#[]⟩,.string ⟨#[99,108,105,112]⟩,.string ⟨#[106,117,109,112]⟩,.string ⟨#[119,97,114,112]⟩] 9)).grown hg12 (by omega);replace hdb2:=(hdb2.alloc (.cells #[.string ⟨#[]⟩,.string ⟨#[]⟩,.string ⟨#[]⟩,.string ⟨#[99,108,105,112]⟩,.string ⟨#[106,117,109,112]⟩,.string ⟨#[119,97,114,112]⟩] 9)).grown hg12 (by omega);replace hlo72 : LstO w12 (mb + 1) (A7,l7,c7):=own_grown (hlo72.alloc (.cells #[.string ⟨#[]⟩,.string ⟨#[]⟩,.string ⟨#[]⟩,.string ⟨#[99,108,105,112]⟩,.string ⟨#[106,117,109,112]⟩,.string ⟨#[119,97,114,112]⟩] 9)) hg12 (by omega);replace hlo82 : LstO w12 (mb + 1) (A8,l8,c8):=own_grown (hlo82.alloc (.cells #[.string ⟨#[]⟩,.string ⟨#[]⟩,.string ⟨#[]⟩,.string ⟨#[99,108,105,112]⟩,.string ⟨#[106,117,109,112]⟩,.string ⟨#[119,97,114,112]⟩] 9)) hg12 (by omega);have HTRK : Hid (trk ∈ tricksG):=Lib.hid htrk;clear hs12 hg12 htrk;obtain ⟨q0,q1,q2,q3,q4,q5,q6⟩:=hdb2.w7;have f6:=hdb2.thaw 6;have zdb12:=hdb2.lt;have hr3:=hr2.setX hdm hmb hlt 6 (.string ⟨trk.toArray⟩);have hdb3:=hdb2.poke 6 (.string ⟨trk.toArray⟩);have hm3:=hm2.setDb hdb2 hdo.out 6 (.string ⟨trk.toArray⟩);have hlo73 : LstO (w12.setCell ⟨db,6,none⟩ (.string ⟨trk.toArray⟩)) (mb + 1) (A7,l7,c7):=own_past hlo72 hdb2 (by decide) 6 _;have hlo83 : LstO (w12.setCell ⟨db,6,none⟩ (.string ⟨trk.toArray⟩)) (mb + 1) (A8,l8,c8):=own_past hlo82 hdb2 (by decide) 6 _;clear hr2 hdb2 hm2 hlo72 hlo82;go_upto_region 14 with (fail);generalize (w12.setCell ⟨db,6,none⟩ (.string ⟨trk.toArray⟩)) = w13 at *
     have hdb3 : Blk w13 db 120 #[.string ⟨key.toArray⟩,.string ⟨src.toArray⟩,.string ⟨dst.toArray⟩,.int .i64 tm,.slice A7 l7.length c7,.slice A8 l8.length c8,.string ⟨trk.toArray⟩]:=by simpa using hdb3
     clear q0 q1 q2 q3 q4 q5 q6 f6 zdb zdb12;obtain ⟨q0,q1,q2,q3,q4,q5,q6⟩:=hdb3.w7;have zdb:=hdb3.lt
     obtain ⟨m0,m1⟩ : _ ∧ _:=⟨hr3.box.cell 0,hr3.box.cell 1⟩
     simp only [Q0,Q2,Q1] at m0 m1;have hrA:=hr3.alloc (.cells #[.string ⟨key.toArray⟩,.string ⟨src.toArray⟩,.string ⟨dst.toArray⟩,.int .i64 tm,.slice A7 l7.length c7,.slice A8 l8.length c8,.string ⟨trk.toArray⟩] 120);have hmA:=hm3.alloc (.cells #[.string ⟨key.toArray⟩,.string ⟨src.toArray⟩,.string ⟨dst.toArray⟩,.int .i64 tm,.slice A7 l7.length c7,.slice A8 l8.length c8,.string ⟨trk.toArray⟩] 120);have hlA : LstO (w13.alloc (.cells #[.string ⟨key.toArray⟩,.string ⟨src.toArray⟩,.string ⟨dst.toArray⟩,.int .i64 tm,.slice A7 l7.length c7,.slice A8 l8.length c8,.string ⟨trk.toArray⟩] 120)) (mb + 1) (A7,l7,c7):=hlo73.alloc _;have hlB : LstO (w13.alloc (.cells #[.string ⟨key.toArray⟩,.string ⟨src.toArray⟩,.string ⟨dst.toArray⟩,.int .i64 tm,.slice A7 l7.length c7,.slice A8 l8.length c8,.string ⟨trk.toArray⟩] 120)) (mb + 1) (A8,l8,c8):=hlo83.alloc _;have HDB : Hid (DoorG n ds.length (⟨key,src,dst,tm,l7,l8,trk,A7,c7,A8,c8⟩ : DoorE)):=Lib.hid ⟨HKL.out,HSRC.out,HDST.out,HTM.out,HB7.out,HB8.out,HTRK.out⟩
     go_wp2_with (at_builtin; go_must (refine wpList_app (lo:=mb + 1) (base:=mb + 1) (n:=ds.length) (xs:=ds.flatMap encD) _ _ rfl _ _ ty_doorm rfl hmA.doors rfl (by first | exact row_new' _ (by first | rfl | simp) (by first | omega | (simp; omega)) rfl | exact row_newN _ _ (by first | rfl | simp) (by first | omega | (simp; omega)) rfl | exact row_newD _ (by first | rfl | simp) (by first | omega | (simp; omega)) rfl) rfl rfl (by omega) (by omega) (by first | omega | (simp; omega)) ?_))
     intro D9 d9 w14 hown9 hg9 _
     have hown9 : w14.ownsRow (mb + 1) 120 7 (.slice D9 (ds ++ [(⟨key,src,dst,tm,l7,l8,trk,A7,c7,A8,c8⟩ : DoorE)]).length d9) (ds ++ [(⟨key,src,dst,tm,l7,l8,trk,A7,c7,A8,c8⟩ : DoorE)]).length ((ds ++ [(⟨key,src,dst,tm,l7,l8,trk,A7,c7,A8,c8⟩ : DoorE)]).flatMap encD):=by simpa [encD,encStr] using hown9
     have HR9:=Lib.hid (hrA.app hmA.doors hg9 (by omega) (by omega) (by decide) (by decide));have HM9:=Lib.hid (hmA.appD hg9 hown9 hlA hlB);have HDD : Hid (DoorsG n (ds ++ [(⟨key,src,dst,tm,l7,l8,trk,A7,c7,A8,c8⟩ : DoorE)])):=Lib.hid (HD.out.app HDB.out)
     have hdl : (ds ++ [(⟨key,src,dst,tm,l7,l8,trk,A7,c7,A8,c8⟩ : DoorE)]).length = ds.length + 1:=by simp
     have HDL:=Lib.hid hdl;have t1:=HR9.out.box.cell 1;simp only [Q0,Q2,Q1] at t1;have f1:=HR9.out.box.thaw 1;have z9:=HR9.out.box.lt;have HR10:=Lib.hid (HR9.out.set hlt hmb 1 (.slice D9 (ds.length + 1) d9));have HM10:=Lib.hid (HM9.out.box HR9.out.box (by decide) (by decide) (by decide) 1 (.slice D9 (ds.length + 1) d9));clear hown9 hg9 hrA hmA hlA hlB hr3 hm3 hlo73 hlo83 hdb3 q0 q1 q2 q3 q4 q5 q6 m0 m1 hdl;go_wp2_with fail;go_roundw
     case rel => exact ⟨D9,d9,ds ++ [(⟨key,src,dst,tm,l7,l8,trk,A7,c7,A8,c8⟩ : DoorE)],by rw [HDL.out]; omega,by rw [HDL.out]; go_num,by rw [HDL.out]; exact (by simpa using HR10.out.more (show _ ≤ N + 17 + 10 * (ds.length + 1) by omega)),HM10.out,HDD⟩
     case measure => simp [intOf]; omega
    ·have hke : ds.length = m2:=by omega
     have HKE2:=Lib.hid hke
     have hds9 : ds.length ≤ 9:=by omega
     have hds1 : 1 ≤ ds.length:=by omega
     have hrs1 : 2 ≤ rs.length:=by rw [HKE.out]; omega
     clear hke hk;go_wp2_with fail;refine (some_names g _ (w.heap.size + 1) n _ hr.s (by omega) hr.nm (by omega) (by omega) hn5').mono ?_;rintro e w5 ⟨st,rfl,hst,hs5,hg5⟩;replace hr:=hr.str hlt (by omega) hs5 hg5;replace hm:=hm.grown hg5 (by omega);have HST:=Lib.hid hst;clear hs5 hg5 hst;go_wp2_with fail;refine (some_names g _ (w.heap.size + 1) n _ hr.s (by omega) hr.nm (by omega) (by omega) hn5').mono ?_;rintro e w6 ⟨gl,rfl,hgl,hs6,hg6⟩;have HGL:=Lib.hid hgl;clear hgl;replace hr:=hr.str hlt (by omega) hs6 hg6;replace hm:=hm.grown hg6 (by omega);clear hs6 hg6
     obtain ⟨m0,m1,m2',m3⟩ : _ ∧ _ ∧ _ ∧ _:=⟨hr.box.cell 0,hr.box.cell 1,hr.box.cell 2,hr.box.cell 3⟩
     simp only [Q0,Q2,Q1] at m0 m1 m2' m3;have f2:=hr.box.thaw 2;have f3:=hr.box.thaw 3;have zb:=hr.box.lt;have hr2:=(hr.set hlt hmb 2 (.string ⟨st.toArray⟩)).set hlt hmb 3 (.string ⟨gl.toArray⟩);have hm2:=(hm.box hr.box (by decide) (by decide) (by decide) 2 (.string ⟨st.toArray⟩)).box (hr.set hlt hmb 2 (.string ⟨st.toArray⟩)).box (by decide) (by decide) (by decide) 3 (.string ⟨gl.toArray⟩);clear hr hm;go_upto_region 17 with (fail);generalize ((w6.setCell ⟨mb,2,none⟩ (.string ⟨st.toArray⟩)).setCell ⟨mb,3,none⟩ (.string ⟨gl.toArray⟩)) = w7 at *;clear m0 m1 m2' m3 f2 f3 zb
     obtain ⟨m0,m1,m2',m3⟩ : _ ∧ _ ∧ _ ∧ _:=⟨hr2.box.cell 0,hr2.box.cell 1,hr2.box.cell 2,hr2.box.cell 3⟩
     simp at m0 m1 m2' m3
     obtain ⟨r0,r1,r2,r3⟩ : _ ∧ _ ∧ _ ∧ _:=⟨hr2.res.cell 0,hr2.res.cell 1,hr2.res.cell 2,hr2.res.cell 3⟩
     simp only [Q0,Q2,Q1] at r0 r1 r2 r3;have f0:=hr2.res.thaw 0;have f1:=hr2.res.thaw 1;have f2:=hr2.res.thaw 2;have f3:=hr2.res.thaw 3;have zr:=hr2.res.lt;have hz:=(((hr2.res.poke 0 (.slice A5 rs.length c5)).poke 1 (.slice D5 ds.length d5)).poke 2 (.string ⟨st.toArray⟩)).poke 3 (.string ⟨gl.toArray⟩);have HMF:=Lib.hid (((((hm2.setOff (p:=⟨w.heap.size,0,none⟩) (by simp; omega) (.slice A5 rs.length c5)).setOff (p:=⟨w.heap.size,1,none⟩) (by simp; omega) (.slice D5 ds.length d5)).setOff (p:=⟨w.heap.size,2,none⟩) (by simp; omega) (.string ⟨st.toArray⟩)).setOff (p:=⟨w.heap.size,3,none⟩) (by simp; omega) (.string ⟨gl.toArray⟩)).weak (show w.heap.size ≤ mb + 1 by omega));have HSF:=Lib.hid (((((hr2.s.set (p:=⟨w.heap.size,0,none⟩) (by simp; omega) (.slice A5 rs.length c5)).set (p:=⟨w.heap.size,1,none⟩) (by simp; omega) (.slice D5 ds.length d5)).set (p:=⟨w.heap.size,2,none⟩) (by simp; omega) (.string ⟨st.toArray⟩)).set (p:=⟨w.heap.size,3,none⟩) (by simp; omega) (.string ⟨gl.toArray⟩)).more (show _ ≤ N + 200 by omega));have HGF:=Lib.hid (grown_set_new (grown_set_new (grown_set_new (grown_set_new hr2.gr (p:=⟨w.heap.size,0,none⟩) (by simp) (.slice A5 rs.length c5)) (p:=⟨w.heap.size,1,none⟩) (by simp) (.slice D5 ds.length d5)) (p:=⟨w.heap.size,2,none⟩) (by simp) (.string ⟨st.toArray⟩)) (p:=⟨w.heap.size,3,none⟩) (by simp) (.string ⟨gl.toArray⟩));clear hm2 hr2;go_wp2_with fail;refine bodyPost_ret (res_map _ 2 _ _ w.heap.size _ _ st gl A5 D5 rs.length c5 ds.length d5 rfl rfl (by kernel_rfl) rfl (hz.cell 0) (hz.cell 1) (hz.cell 2) (hz.cell 3)) rfl ?_;exact ⟨A5,c5,rs,D5,d5,ds,st,gl,rfl,HMF.out,HB.out,by rw [HKE.out]; exact HD.out,hrs1,hrs5,hds1,hds9,by rw [HKE.out]; exact HST.out,by rw [HKE.out]; exact HGL.out,HSF.out,HGF.out⟩
theorem rightMap_any (g N : Nat) (w : World) (hs : Str w g N) (hN : N < 4611686018427380000) :
  Calls Tryz.prog 112 #[.pointer (some ⟨g,0,none⟩)] w (RmPost w g (N + 200)):=by
 refine (rightMapG_any g N w hs hN).mono ?_;rintro e w' ⟨A,ca,rs,D,cd,ds,st,gl,rfl,hm,hr,hd,h2,h5,h1,h9,h6,h7,hs',hg'⟩;exact ⟨A,ca,rs,D,cd,ds,st,gl,rfl,hm,hr.b,hd.b,by omega,h5,h1,h9,by have:=names_b h6; omega,by have:=names_b h7; omega,hs',hg'⟩
end Go.Proofs.YtjggbpchmbdocaaGreatDoor
