/- Texts of this seat, laid together: MpC. -/
import Derived.Test.YtjggbpchmbdocaaGreatDoorBl37
/- The walk of the stream's MapOf. -/
namespace Go.Proofs.YtjggbpchmbdocaaGreatDoor
set_option linter.unusedVariables false
set_option linter.unusedSimpArgs false
open Go.RowKit Go.Sort

theorem flat_set {α : Type} (enc : α → List Value) (n : Nat) (hn : ∀ x,(enc x).length = n) (u : Value) (x' : α) : ∀ (l : List α) (k : Nat) (h : k < l.length) (i : Nat),i < n → enc x' = (enc l[k]).set i u → (l.flatMap enc).set (k * n + i) u = (l.set k x').flatMap enc
 | [],k,h,_,_,_ => absurd h (by simp)
 | x :: l,0,h,i,hi,e => by
  rw [Nat.zero_mul,Nat.zero_add,List.flatMap_cons,List.set_append_left _ _ (by rw [hn]; exact hi),List.set_cons_zero,List.flatMap_cons,e]
  rfl
 | x :: l,k + 1,h,i,hi,e => by
  have ih:=flat_set enc n hn u x' l k (by simpa using h) i hi e
  rw [List.flatMap_cons,List.set_append_right _ _ (by rw [hn,Nat.add_mul]; omega),hn,show (k + 1) * n + i - n = k * n + i by rw [Nat.add_mul]; omega,ih,List.set_cons_succ,List.flatMap_cons]
section
variable {w w' : World} {base g ca cd gD gA : Nat} {A D : Option Addr} {rs : List RoomE} {ds : List DoorE}
theorem own_setT {b2 base size n n2 size2 k : Nat} {e e' : TypeId} {v v' : Value} {xs xs' : List Value} (h : w.ownsRow base e size v n xs) (h' : w.ownsRow b2 e' size2 v' n2 xs') (hk : v'.ownBlock = some k) (hne : e ≠ e') (i : Nat) (u : Value) : (w.setCell ⟨k,i,none⟩ u).ownsRow base e size v n xs :=
 own_set_otherW h (fun b hb e1 => hne (own_typ h h' hb (by rw [hk]; exact congrArg some e1.symm))) u
theorem MapO.setD (h : MapO w base A ca rs (some ⟨gD,0,none⟩) cd ds) {k : Nat} (hk : k < ds.length) {i : Nat} (hi : i < 7) (u : Value) (d' : DoorE) (he : encD d' = (encD ds[k]).set i u) (hn : LstO (w.setCell ⟨gD,k * 7 + i,none⟩ u) base (d'.N,d'.needs,d'.nc)) (ht : LstO (w.setCell ⟨gD,k * 7 + i,none⟩ u) base (d'.T,d'.takes,d'.tc)) :
  MapO (w.setCell ⟨gD,k * 7 + i,none⟩ u) base A ca rs (some ⟨gD,0,none⟩) cd (ds.set k d'):=by
 refine ⟨own_setT h.rooms h.doors rfl (by decide) _ u,?_,fun q hq => own_setT (h.rl q hq) h.doors rfl (by decide) _ u,fun q hq => ?_⟩
 ·have:=(h.doors.stored (k * 7 + i) u).1
  rw [flat_set encD 7 encD_len u d' ds k hk i hi he] at this
  rw [List.length_set]
  exact this
 ·unfold dlists at hq
  obtain ⟨d,hd,hq2⟩:=List.mem_flatMap.1 hq
  rcases List.mem_or_eq_of_mem_set hd with h1 | h1
  ·exact own_setT (h.dl q (List.mem_flatMap.2 ⟨d,h1,hq2⟩)) h.doors rfl (by decide) _ u
  ·rw [h1] at hq2
   rcases List.mem_cons.1 hq2 with h2 | h2
   ·rw [h2]; exact hn
   ·rw [List.mem_singleton.1 h2]; exact ht
theorem MapO.setR (h : MapO w base (some ⟨gA,0,none⟩) ca rs D cd ds) {k : Nat} (hk : k < rs.length) (u : Value) (r' : RoomE) (he : encR r' = (encR rs[k]).set 0 u) (hn : (r'.B,r'.gives,r'.c) = (rs[k].B,rs[k].gives,rs[k].c)) :
  MapO (w.setCell ⟨gA,k * 2,none⟩ u) base (some ⟨gA,0,none⟩) ca (rs.set k r') D cd ds:=by
 refine ⟨?_,own_setT h.doors h.rooms rfl (by decide) _ u,fun q hq => ?_,fun q hq => own_setT (h.dl q hq) h.rooms rfl (by decide) _ u⟩
 ·have:=(h.rooms.stored (k * 2) u).1
  have e:=flat_set encR 2 encR_len u r' rs k hk 0 (by decide) he
  rw [Nat.add_zero] at e
  rw [e] at this
  rw [List.length_set]
  exact this
 ·have hq2 : q ∈ rlists rs:=by
   unfold rlists at hq ⊢
   obtain ⟨r,hr,rfl⟩:=List.mem_map.1 hq
   rcases List.mem_or_eq_of_mem_set hr with h1 | rfl
   ·exact List.mem_map.2 ⟨r,h1,rfl⟩
   ·rw [hn]; exact List.mem_map.2 ⟨_,List.getElem_mem hk,rfl⟩
  exact own_setT (h.rl q hq2) h.rooms rfl (by decide) _ u
theorem MapO.doorCells (h : MapO w base A ca rs (some ⟨gD,0,none⟩) cd ds) {k : Nat} (hk : k < ds.length) : w.cell? ⟨gD,k * 7,none⟩ = some (encStr ds[k].key) ∧ w.cell? ⟨gD,k * 7 + 1,none⟩ = some (encStr ds[k].src) ∧ w.cell? ⟨gD,k * 7 + 2,none⟩ = some (encStr ds[k].dst) ∧ w.cell? ⟨gD,k * 7 + 3,none⟩ = some (.int .i64 ds[k].time) ∧ w.cell? ⟨gD,k * 7 + 4,none⟩ = some (.slice ds[k].N ds[k].needs.length ds[k].nc) ∧ w.cell? ⟨gD,k * 7 + 5,none⟩ = some (.slice ds[k].T ds[k].takes.length ds[k].tc) ∧ w.cell? ⟨gD,k * 7 + 6,none⟩ = some (encStr ds[k].trick):=by
 obtain ⟨g,e,_,_,hc,_⟩:=ownBlk h.doors (by omega)
 injection e with e; injection e with e; subst e
 have g : ∀ j (hj : j < 7) u,(encD ds[k])[j]? = some u → w.cell? ⟨gD,k * 7 + j,none⟩ = some u:=fun j hj u hu => hc _ u (by rw [flat_at encD 7 encD_len ds k hk j hj,hu])
 exact ⟨g 0 (by omega) _ rfl,g 1 (by omega) _ rfl,g 2 (by omega) _ rfl,g 3 (by omega) _ rfl,g 4 (by omega) _ rfl,g 5 (by omega) _ rfl,g 6 (by omega) _ rfl⟩
theorem MapO.doorFree (h : MapO w base A ca rs (some ⟨gD,0,none⟩) cd ds) (h0 : 0 < ds.length) : base ≤ gD ∧ gD < w.heap.size ∧ ∀ j,w.frozen? ⟨gD,j,none⟩ = false:=by
 obtain ⟨g,e,h1,h2,_,h3⟩:=ownBlk h.doors h0
 injection e with e; injection e with e; subst e
 exact ⟨h1,h2,h3⟩
end
structure MfC (w W : World) (g N mb : Nat) (A : Option Addr) (ca : Nat) (rs : List RoomE) (gD cd : Nat) (ds : List DoorE) (st gl : List UInt8) : Prop where
  s : Str W g N
  gr : w.grownBy W (some g)
  res : Blk W w.heap.size 29 #[.slice none 0 0, .slice none 0 0, .string ⟨#[]⟩, .string ⟨#[]⟩]
  box : Blk W mb 29 #[.slice A rs.length ca, .slice (some ⟨gD, 0, none⟩) ds.length cd, .string ⟨st.toArray⟩, .string ⟨gl.toArray⟩]
  m : MapO W (w.heap.size + 1) A ca rs (some ⟨gD, 0, none⟩) cd ds
  hm : w.heap.size < mb
  hg : g < w.heap.size
  hd : 0 < ds.length
section
variable {w W W' : World} {g N N' mb ca cd gD gA : Nat} {A : Option Addr} {rs : List RoomE} {ds : List DoorE} {st gl : List UInt8}
theorem MfC.below (h : MfC w W g N mb A ca rs gD cd ds st gl) (hb : Below W.heap.size W W') : MfC w W' g N mb A ca rs gD cd ds st gl:=⟨h.s.keep hb,grown_trans' h.gr (grown_of_below hb _),h.res.below hb,h.box.below hb,h.m.below hb,h.hm,h.hg,h.hd⟩
theorem MfC.alloc (h : MfC w W g N mb A ca rs gD cd ds st gl) (o : Obj) : MfC w (W.alloc o) g N mb A ca rs gD cd ds st gl:=h.below ((Below.refl _ _).alloc (Nat.le_refl _) o)
theorem MfC.drew (h : MfC w W g N mb A ca rs gD cd ds st gl) : MfC w W.drew g N mb A ca rs gD cd ds st gl:=h.below (below_drewN' (Below.refl _ _) 1)
theorem MfC.str (h : MfC w W g N mb A ca rs gD cd ds st gl) (hs : Str W' g N') (hb : W.grownBy W' (some g)) : MfC w W' g N' mb A ca rs gD cd ds st gl :=
 ⟨hs,grown_trans' h.gr hb,h.res.grown hb (by have:=h.hg; omega),h.box.grown hb (by have:=h.hg; have:=h.hm; omega),h.m.grown hb (by have:=h.hg; omega),h.hm,h.hg,h.hd⟩
theorem MfC.more (h : MfC w W g N mb A ca rs gD cd ds st gl) (hN : N ≤ N') : MfC w W g N' mb A ca rs gD cd ds st gl:=⟨h.s.more hN,h.gr,h.res,h.box,h.m,h.hm,h.hg,h.hd⟩
theorem MfC.setBox (h : MfC w W g N mb A ca rs gD cd ds st gl) (i : Nat) (u : Value) (st' gl' : List UInt8) (he : (#[.slice A rs.length ca,.slice (some ⟨gD,0,none⟩) ds.length cd,.string ⟨st.toArray⟩,.string ⟨gl.toArray⟩]).setIfInBounds i u = #[.slice A rs.length ca,.slice (some ⟨gD,0,none⟩) ds.length cd,.string ⟨st'.toArray⟩,.string ⟨gl'.toArray⟩]) : MfC w (W.setCell ⟨mb,i,none⟩ u) g N mb A ca rs gD cd ds st' gl' :=
 ⟨h.s.set (by have:=h.hg; have:=h.hm; simp; omega) _,grown_set_new h.gr (by have:=h.hm; simp; omega) _,h.res.past mb i u (by have:=h.hm; omega),he ▸ h.box.poke i u,h.m.box h.box (by decide) (by decide) (by decide) i u,h.hm,h.hg,h.hd⟩
theorem MfC.setD (h : MfC w W g N mb A ca rs gD cd ds st gl) {k : Nat} (hk : k < ds.length) {i : Nat} (hi : i < 7) (u : Value) (d' : DoorE) (he : encD d' = (encD ds[k]).set i u) (hn : LstO (W.setCell ⟨gD,k * 7 + i,none⟩ u) (w.heap.size + 1) (d'.N,d'.needs,d'.nc)) (ht : LstO (W.setCell ⟨gD,k * 7 + i,none⟩ u) (w.heap.size + 1) (d'.T,d'.takes,d'.tc)) :
  MfC w (W.setCell ⟨gD,k * 7 + i,none⟩ u) g N mb A ca rs gD cd (ds.set k d') st gl:=by
 obtain ⟨h1,h2,h3⟩:=h.m.doorFree h.hd
 have hne:=own_blkne h.m.doors h.box (by decide) _ rfl
 have hg:=h.hg
 refine ⟨h.s.set (by simp; omega) _,grown_set_new h.gr (by simp; omega) _,h.res.past gD _ u (by omega),?_,h.m.setD hk hi u d' he hn ht,h.hm,h.hg,by simpa using h.hd⟩
 have:=h.box.past gD (k * 7 + i) u (Ne.symm hne)
 rw [List.length_set]
 exact this
theorem MfC.setD' (h : MfC w W g N mb A ca rs gD cd ds st gl) {k : Nat} (hk : k < ds.length) {i : Nat} (hi : i < 7) (u : Value) (d' : DoorE) (he : encD d' = (encD ds[k]).set i u) (hl : (d'.N,d'.needs,d'.nc) = (ds[k].N,ds[k].needs,ds[k].nc)) (hl2 : (d'.T,d'.takes,d'.tc) = (ds[k].T,ds[k].takes,ds[k].tc)) :
  MfC w (W.setCell ⟨gD,k * 7 + i,none⟩ u) g N mb A ca rs gD cd (ds.set k d') st gl:=by
 refine h.setD hk hi u d' he ?_ ?_
 ·rw [hl]; exact own_setT (h.m.dl _ (List.mem_flatMap.2 ⟨_,List.getElem_mem hk,by simp⟩)) h.m.doors rfl (by decide) _ u
 ·rw [hl2]; exact own_setT (h.m.dl _ (List.mem_flatMap.2 ⟨_,List.getElem_mem hk,by simp⟩)) h.m.doors rfl (by decide) _ u
theorem MfC.setR (h : MfC w W g N mb (some ⟨gA,0,none⟩) ca rs gD cd ds st gl) {k : Nat} (hk : k < rs.length) (u : Value) (r' : RoomE) (he : encR r' = (encR rs[k]).set 0 u) (hn : (r'.B,r'.gives,r'.c) = (rs[k].B,rs[k].gives,rs[k].c)) :
  MfC w (W.setCell ⟨gA,k * 2,none⟩ u) g N mb (some ⟨gA,0,none⟩) ca (rs.set k r') gD cd ds st gl:=by
 obtain ⟨g',e,h1,h2,h4,h3⟩:=ownBlk h.m.rooms (by omega)
 injection e with e; injection e with e; subst e
 have hne:=own_blkne h.m.rooms h.box (by decide) _ rfl
 have hg:=h.hg
 refine ⟨h.s.set (by simp; omega) _,grown_set_new h.gr (by simp; omega) _,h.res.past gA _ u (by omega),?_,h.m.setR hk u r' he hn,h.hm,h.hg,h.hd⟩
 have:=h.box.past gA (k * 2) u (Ne.symm hne)
 rw [List.length_set]
 exact this
end
section
variable {w W : World} {g N mb ca cd gD : Nat} {A : Option Addr} {rs : List RoomE} {ds : List DoorE} {st gl : List UInt8}
theorem MfC.dc (h : MfC w W g N mb A ca rs gD cd ds st gl) {k : Nat} {d : DoorE} (hd : ds[k]? = some d) : W.cell? ⟨gD,k * 7,none⟩ = some (.string ⟨d.key.toArray⟩) ∧ W.cell? ⟨gD,k * 7 + 1,none⟩ = some (.string ⟨d.src.toArray⟩) ∧ W.cell? ⟨gD,k * 7 + 2,none⟩ = some (.string ⟨d.dst.toArray⟩) ∧ W.cell? ⟨gD,k * 7 + 3,none⟩ = some (.int .i64 d.time) ∧ W.cell? ⟨gD,k * 7 + 4,none⟩ = some (.slice d.N d.needs.length d.nc) ∧ W.cell? ⟨gD,k * 7 + 5,none⟩ = some (.slice d.T d.takes.length d.tc) ∧ W.cell? ⟨gD,k * 7 + 6,none⟩ = some (.string ⟨d.trick.toArray⟩):=by
 obtain ⟨hk,rfl⟩:=List.getElem?_eq_some_iff.1 hd
 exact h.m.doorCells hk
theorem MfC.setDd (h : MfC w W g N mb A ca rs gD cd ds st gl) {k : Nat} {d : DoorE} (hd : ds[k]? = some d) {i : Nat} (hi : i < 7) (u : Value) (d' : DoorE) (he : encD d' = (encD d).set i u) (hl : (d'.N,d'.needs,d'.nc) = (d.N,d.needs,d.nc)) (hl2 : (d'.T,d'.takes,d'.tc) = (d.T,d.takes,d.tc)) :
  MfC w (W.setCell ⟨gD,k * 7 + i,none⟩ u) g N mb A ca rs gD cd (ds.set k d') st gl ∧ (ds.set k d')[k]? = some d':=by
 obtain ⟨hk,rfl⟩:=List.getElem?_eq_some_iff.1 hd
 exact ⟨h.setD' hk hi u d' he hl hl2,by simp [hk]⟩
theorem own_lit2 (w : World) (base : Nat) (a b : List UInt8) (hb : base ≤ w.heap.size) : LstO (w.alloc (.cells #[.string ⟨a.toArray⟩,.string ⟨b.toArray⟩] 9)) base (some ⟨w.heap.size,0,none⟩,[a,b],2) :=
 ⟨rfl,.inr ⟨w.heap.size,2,#[.string ⟨a.toArray⟩,.string ⟨b.toArray⟩],rfl,hb,heap_alloc_new w _,Nat.le_refl _,by decide,rfl,rfl⟩⟩
end
theorem doorB_set {ds : List DoorE} {k : Nat} {d' : DoorE} (h : ∀ d ∈ ds,DoorB d) (hd : DoorB d') : ∀ d ∈ ds.set k d',DoorB d:=fun d hm => by
 rcases List.mem_or_eq_of_mem_set hm with h1 | rfl
 ·exact h d h1
 ·exact hd
theorem roomB_set {rs : List RoomE} {k : Nat} {r' : RoomE} (h : ∀ r ∈ rs,RoomB r) (hr : RoomB r') : ∀ r ∈ rs.set k r',RoomB r:=fun r hm => by
 rcases List.mem_or_eq_of_mem_set hm with h1 | rfl
 ·exact h r h1
 ·exact hr
def MfE (w W : World) (g N mb : Nat) : Prop:=∃ (A : Option Addr) (ca : Nat) (rs : List RoomE) (gD cd : Nat) (ds : List DoorE) (st gl : List UInt8),MfC w W g N mb A ca rs gD cd ds st gl ∧ (∀ r ∈ rs,RoomB r) ∧ (∀ d ∈ ds,DoorB d) ∧ 1 ≤ rs.length ∧ rs.length ≤ 5 ∧ ds.length ≤ 9 ∧ st.length ≤ 100 ∧ gl.length ≤ 100
set_option maxHeartbeats 8000000 in
set_option maxRecDepth 100000 in
theorem mapOf_any (g N : Nat) (w : World) (hs : Str w g N) (hN : N < 4611686018427370000) :
  Calls Tryz.prog 45 #[.pointer (some ⟨g,0,none⟩)] w (RmPost w g (N + 300)):=by
 have hlt:=hs.lt
 have hs0:=hs.alloc (.cells #[.slice none 0 0,.slice none 0 0,.string ⟨#[]⟩,.string ⟨#[]⟩] 29)
 have hgr0 : w.grownBy (w.alloc (.cells #[.slice none 0 0,.slice none 0 0,.string ⟨#[]⟩,.string ⟨#[]⟩] 29)) (some g):=World.grownBy_alloc _ _ _
 have hres0 : Blk (w.alloc (.cells #[.slice none 0 0,.slice none 0 0,.string ⟨#[]⟩,.string ⟨#[]⟩] 29)) w.heap.size 29 #[.slice none 0 0,.slice none 0 0,.string ⟨#[]⟩,.string ⟨#[]⟩]:=Blk.new _ _ _
 have hsz0 : (w.alloc (.cells #[.slice none 0 0,.slice none 0 0,.string ⟨#[]⟩,.string ⟨#[]⟩] 29)).heap.size = w.heap.size + 1:=by simp
 have HSZ:=Lib.hid hsz0
 clear hsz0
 go_enter Tryz.func45,Tryz.ntmps45
 go_wp2_with fail
 generalize w.alloc (.cells #[.slice none 0 0,.slice none 0 0,.string ⟨#[]⟩,.string ⟨#[]⟩] 29) = w0 at *
 refine (rightMap_any g N w0 hs0 (by omega)).mono ?_
 rintro e w1 ⟨A,ca,rs,D,cd,ds,st,gl,rfl,hm1,hRB,hDB,hr1,hr5,hd1,hd9,hst,hgl,hs1,hg1⟩
 rw [HSZ.out] at hm1
 obtain ⟨gD,hD,-,-,-,-⟩:=ownBlk hm1.doors (by omega)
 subst hD
 have HRB:=Lib.hid hRB
 have HDB:=Lib.hid hDB
 have hres1:=hres0.grown hg1 (by omega)
 have hmf : MfC w (w1.alloc (.cells #[.slice A rs.length ca,.slice (some ⟨gD,0,none⟩) ds.length cd,.string ⟨st.toArray⟩,.string ⟨gl.toArray⟩] 29)) g (N + 200) w1.heap.size A ca rs gD cd ds st gl:=⟨hs1.alloc _,grown_alloc (grown_trans' hgr0 hg1) _,hres1.alloc _,Blk.new _ _ _,hm1.alloc _,hres1.lt,hlt,by omega⟩
 clear hs0 hgr0 hres0 hm1 hRB hDB hs1 hg1 hres1
 go_wp2_with fail
 generalize w1.alloc (.cells #[.slice A rs.length ca,.slice (some ⟨gD,0,none⟩) ds.length cd,.string ⟨st.toArray⟩,.string ⟨gl.toArray⟩] 29) = w2 at *
 generalize w1.heap.size = mb at *
 refine (flip_any g _ 12 _ hmf.s (by omega) (by omega)).mono ?_
 rintro e w3 ⟨fb,rfl,hs3,hg3⟩
 replace hmf:=hmf.str hs3 hg3
 clear hs3 hg3
 go_upto_if 8 with (fail)
 go_cut [2,3] from 4 to 95 (fun a b wx => a = .pointer (some ⟨w.heap.size,0,none⟩) ∧ b = .pointer (some ⟨mb,0,none⟩) ∧ MfE w wx g (N + 250) mb)
 case first =>
  cases fb with
  | false =>
   go_wp2_with fail
   go_meet
   exact ⟨rfl,rfl,A,ca,rs,gD,cd,ds,st,gl,hmf.more (by omega),HRB.out,HDB.out,hr1,hr5,hd9,hst,hgl⟩
  | true =>
   go_upto_region 3 with (fail)
   have hmd:=hmf.drew
   clear hmf
   refine wp_region_held_drew (S:=(fun w' => w'.cell? ⟨mb,1,none⟩ = some (.slice (some ⟨gD,0,none⟩) ds.length cd))) (by kernel_rfl) (hmd.box.cell 1) (fun hHeld => ?_)
   (refine QT (i:=0) (v:=?_) ?_ ?_; (rotate_left 1; (intro w hSw; (try dsimp only at hSw); go_simp); (try with_reducible rfl)); (try simp only [Act.put,Q3,Q4,Q5]))
   (refine QT (i:=1) (v:=?_) ?_ ?_; (rotate_left 1; (intro w hSw; (try dsimp only at hSw); go_simp); (try with_reducible rfl)); (try simp only [Act.put,Q3,Q4,Q5]))
   (refine QT (i:=2) (v:=?_) ?_ ?_; (rotate_left 1; (intro w hSw; (try dsimp only at hSw); go_simp); (try with_reducible rfl)); (try simp only [Act.put,Q3,Q4,Q5]))
   (refine QT (i:=3) (v:=?_) ?_ ?_; (rotate_left 1; (intro w hSw; (try dsimp only at hSw); go_simp); (try with_reducible rfl)); (try simp only [Act.put,Q3,Q4,Q5]))
   (refine QT (i:=4) (v:=?_) ?_ ?_; (rotate_left 1; (intro w hSw; (try dsimp only at hSw); go_simp); (try with_reducible rfl)); (try simp only [Act.put,Q3,Q4,Q5]))
   (refine QT (i:=5) (v:=?_) ?_ ?_; (rotate_left 1; (intro w hSw; (try dsimp only at hSw); go_simp); (try with_reducible rfl)); (try simp only [Act.put,Q3,Q4,Q5]))
   refine wpAnyH_ready (rs:=[6]) (by kernel_rfl) (by simp) ?_
   refine AllReadyH.cons rfl (fun K hK => ?_) AllReadyH.nil
   go_simp
   go_at_call 49
   refine (next_any g _ _ _ hmd.s (by omega) (by omega)).mono ?_
   rintro e w4 ⟨r4,rfl,h40,h41,-,hs4,hg4⟩
   have h42:=h41 (by omega)
   obtain ⟨k,rfl⟩:=Int.eq_ofNat_of_zero_le h40
   replace hmd:=hmd.str hs4 hg4
   have hk : k < ds.length:=by omega
   clear h41 hs4 hg4
   go_wp2_with fail
   refine hK.out _ _ (hmd.box.cell 1) (fun hHeld => ?_)
   clear hK K
   (try simp only [Act.put,Q3,Q4,Q5])
   (refine QT (i:=7) (v:=?_) ?_ ?_; (rotate_left 1; (intro w hSw; (try dsimp only at hSw); go_simp); (try with_reducible rfl)); (try simp only [Act.put,Q3,Q4,Q5]))
   (refine QT (i:=8) (v:=?_) ?_ ?_; (rotate_left 1; (intro w hSw; (try dsimp only at hSw); go_simp); (try with_reducible rfl)); (try simp only [Act.put,Q3,Q4,Q5]))
   refine wpAnyH_done (by kernel_rfl) ?_ _
   go_wp2_with fail
   refine (next_any g _ 5 _ hmd.s (by omega) (by omega)).mono ?_
   rintro e w5 ⟨r5,rfl,h50,h51,-,hs5,hg5⟩
   have h52:=h51 (by omega)
   replace hmd:=hmd.str hs5 hg5
   have hgw5 : g < w5.heap.size:=hmd.s.lt
   obtain ⟨d,hdk⟩ : ∃ d,ds[k]? = some d:=⟨ds[k],List.getElem?_eq_getElem hk⟩
   have hDd : DoorB d:=HDB.out d (by obtain ⟨h1,h2⟩:=List.getElem?_eq_some_iff.1 hdk; rw [← h2]; exact List.getElem_mem _)
   have hdk1:=hDd.k.1
   have hdk2:=hDd.k.2.1
   have hdk3:=hDd.k.2.2.1
   clear h51 hs5 hg5 hk
   rcases (by omega : r5 = 0 ∨ r5 = 1 ∨ r5 = 2 ∨ r5 = 3 ∨ r5 = 4) with rfl | rfl | rfl | rfl | rfl
   ·obtain ⟨q0,q1,q2,q3,q4,q5,q6⟩:=hmd.dc hdk
    clear q1 q2 q3 q4 q5 q6
    go_wp2_with fail
    refine (some_lit g _ w5.heap.size 100 #[.string ⟨d.key.toArray⟩,.string ⟨#[]⟩,.string ⟨#[100,48]⟩] [d.key,[],[100,48]] _ (hmd.s.alloc _) (by omega) (Blk.new _ _ _) rfl hmd.s.lt (by simp) (by simp) (by intro s hs; simp at hs; rcases hs with rfl | rfl | rfl <;> first | omega | simp)).mono ?_
    rintro e w6 ⟨x1,rfl,hx1,hs6,hg6⟩
    replace hmd:=(hmd.alloc (.cells #[.string ⟨d.key.toArray⟩,.string ⟨#[]⟩,.string ⟨#[100,48]⟩] 9)).str hs6 hg6
    clear hs6 hg6 q0
    go_wp2_with fail
    refine (odd_any g _ 1 864000000 _ hmd.s (by omega) (by omega) (by omega) (by omega)).mono ?_
    rintro e w7 ⟨x2,rfl,hx2,hx3,hs7,hg7⟩
    replace hmd:=hmd.str hs7 hg7
    clear hs7 hg7
    obtain ⟨q0,q1,q2,q3,q4,q5,q6⟩:=hmd.dc hdk
    obtain ⟨zd0,zd1,zd2⟩:=hmd.m.doorFree hmd.hd
    have f0:=zd2 (k * 7)
    have f3:=zd2 (k * 7 + 3)
    obtain ⟨h8,hdk8⟩:=hmd.setDd hdk (i:=0) (by decide) (.string ⟨x1.toArray⟩) { d with key:=x1 } rfl rfl rfl
    obtain ⟨h9,-⟩:=h8.setDd hdk8 (i:=3) (by decide) (.int .i64 x2) { d with key:=x1,time:=x2 } rfl rfl rfl
    have HB9 : Hid (∀ d' ∈ (ds.set k { d with key:=x1 }).set k { d with key:=x1,time:=x2 },DoorB d'):=Lib.hid (doorB_set (doorB_set HDB.out ⟨⟨by show x1.length ≤ 100; omega,hDd.k.2⟩,hDd.t,hDd.n,hDd.x⟩) ⟨⟨by show x1.length ≤ 100; omega,hDd.k.2⟩,⟨by show _ ≤ x2; omega,by show x2 ≤ _; omega⟩,hDd.n,hDd.x⟩)
    have H9:=Lib.hid h9
    clear h8 h9 hmd zd2 hdk8
    go_wp2_with fail
    go_meet
    exact ⟨rfl,rfl,A,ca,rs,gD,cd,_,st,gl,H9.out.more (by omega),HRB.out,HB9.out,hr1,hr5,by simpa using hd9,hst,hgl⟩
   ·go_upto_region 9 with (fail)
    replace hmd:=hmd.drew
    refine wp_region_heldK 18 (fun w' => w'.cell? ⟨gD,k * 7 + 1,none⟩ = some (.string ⟨d.src.toArray⟩) ∧ w'.cell? ⟨gD,k * 7 + 2,none⟩ = some (.string ⟨d.dst.toArray⟩)) (fun _ => True) (by kernel_rfl) (trivial) (⟨(hmd.dc hdk).2.1,(hmd.dc hdk).2.2.1⟩) (fun hT hS => ?_)
    (refine wpAnyK_take2 (i:=0) (v:=?_) (by (simp only [Q0,Q2]; rfl)) (by kernel_rfl) (by kernel_rfl) (by kernel_rfl) (by decide) (by exact fun _ _ _ h => h) (Or.inl ⟨by rfl,?_⟩) (by assumption) (by assumption) ?_; (rotate_left 1; (intro w hSw; (try dsimp only at hSw); go_simp); (try with_reducible rfl)); (try simp only [Act.put,Q3,Q4,Q5]))
    (refine wpAnyK_take2 (i:=1) (v:=?_) (by (simp only [Q0,Q1,Q2]; rfl)) (by kernel_rfl) (by kernel_rfl) (by kernel_rfl) (by decide) (by exact fun _ _ _ h => h) (Or.inl ⟨by rfl,?_⟩) (by assumption) (by assumption) ?_; (rotate_left 1; (intro w hSw; (try dsimp only at hSw); go_simp); (try with_reducible rfl)); (try simp only [Act.put,Q3,Q4,Q5]))
    (refine wpAnyK_take2 (i:=2) (v:=?_) (by (simp only [Q0,Q1,Q2]; rfl)) (by kernel_rfl) (by kernel_rfl) (by kernel_rfl) (by decide) (by exact fun _ _ _ h => h) (Or.inl ⟨by rfl,?_⟩) (by assumption) (by assumption) ?_; (rotate_left 1; (intro w hSw; (try dsimp only at hSw); go_simp); (try with_reducible rfl)); (try simp only [Act.put,Q3,Q4,Q5]))
    (refine wpAnyK_take2 (i:=3) (v:=?_) (by (simp only [Q0,Q1,Q2]; rfl)) (by kernel_rfl) (by kernel_rfl) (by kernel_rfl) (by decide) (by exact fun _ _ _ h => h) (Or.inl ⟨by rfl,?_⟩) (by assumption) (by assumption) ?_; (rotate_left 1; (intro w hSw; (try dsimp only at hSw); go_simp); (try with_reducible rfl)); (try simp only [Act.put,Q3,Q4,Q5]))
    (refine wpAnyK_take2 (i:=4) (v:=?_) (by (simp only [Q0,Q1,Q2]; rfl)) (by kernel_rfl) (by kernel_rfl) (by kernel_rfl) (by decide) (by exact fun _ _ _ h => h) (Or.inl ⟨by rfl,?_⟩) (by assumption) (by assumption) ?_; (rotate_left 1; (intro w hSw; (try dsimp only at hSw); go_simp); (try with_reducible rfl)); (try simp only [Act.put,Q3,Q4,Q5]))
    (refine wpAnyK_take2 (i:=5) (v:=?_) (by (simp only [Q0,Q1,Q2]; rfl)) (by kernel_rfl) (by kernel_rfl) (by kernel_rfl) (by decide) (by exact fun _ _ _ h => h) (Or.inl ⟨by rfl,?_⟩) (by assumption) (by assumption) ?_; (rotate_left 1; (intro w hSw; (try dsimp only at hSw); go_simp); (try with_reducible rfl)); (try simp only [Act.put,Q3,Q4,Q5]))
    (refine wpAnyK_take1 (i:=6) (v:=?_) (by (simp only [Q0,Q1,Q2]; rfl)) (by kernel_rfl) (by kernel_rfl) (by kernel_rfl) (by decide) (by kernel_rfl) (by kernel_rfl) (by exact fun _ _ _ h => h) (Or.inl ⟨by rfl,?_⟩) (by assumption) (by assumption) ?_; (rotate_left 1; (intro w hSw; (try dsimp only at hSw); go_simp); (try with_reducible rfl)); (try simp only [Act.put,Q3,Q4,Q5]))
    (refine wpAnyK_take2 (i:=9) (v:=?_) (by (simp only [Q0,Q1,Q2]; rfl)) (by kernel_rfl) (by kernel_rfl) (by kernel_rfl) (by decide) (by exact fun _ _ _ h => h) (Or.inl ⟨by rfl,?_⟩) (by assumption) (by assumption) ?_; (rotate_left 1; (intro w hSw; (try dsimp only at hSw); go_simp); (try with_reducible rfl)); (try simp only [Act.put,Q3,Q4,Q5]))
    (refine wpAnyK_take2 (i:=10) (v:=?_) (by (simp only [Q0,Q1,Q2]; rfl)) (by kernel_rfl) (by kernel_rfl) (by kernel_rfl) (by decide) (by exact fun _ _ _ h => h) (Or.inl ⟨by rfl,?_⟩) (by assumption) (by assumption) ?_; (rotate_left 1; (intro w hSw; (try dsimp only at hSw); go_simp); (try with_reducible rfl)); (try simp only [Act.put,Q3,Q4,Q5]))
    (refine wpAnyK_take2 (i:=11) (v:=?_) (by (simp only [Q0,Q1,Q2]; rfl)) (by kernel_rfl) (by kernel_rfl) (by kernel_rfl) (by decide) (by exact fun _ _ _ h => h) (Or.inl ⟨by rfl,?_⟩) (by assumption) (by assumption) ?_; (rotate_left 1; (intro w hSw; (try dsimp only at hSw); go_simp); (try with_reducible rfl)); (try simp only [Act.put,Q3,Q4,Q5]))
    (refine wpAnyK_take2 (i:=12) (v:=?_) (by (simp only [Q0,Q1,Q2]; rfl)) (by kernel_rfl) (by kernel_rfl) (by kernel_rfl) (by decide) (by exact fun _ _ _ h => h) (Or.inl ⟨by rfl,?_⟩) (by assumption) (by assumption) ?_; (rotate_left 1; (intro w hSw; (try dsimp only at hSw); go_simp); (try with_reducible rfl)); (try simp only [Act.put,Q3,Q4,Q5]))
    (refine wpAnyK_take1 (i:=13) (v:=?_) (by (simp only [Q0,Q1,Q2]; rfl)) (by kernel_rfl) (by kernel_rfl) (by kernel_rfl) (by decide) (by kernel_rfl) (by kernel_rfl) (by exact fun _ _ _ h => h) (Or.inl ⟨by rfl,?_⟩) (by assumption) (by assumption) ?_; (rotate_left 1; (intro w hSw; (try dsimp only at hSw); go_simp); (try with_reducible rfl)); (try simp only [Act.put,Q3,Q4,Q5]))
    refine wpAnyK_ready (rs:=[7,14]) (by kernel_rfl) (by simp) ?_
    refine AllReadyK.cons rfl (fun K hK => ?_) (AllReadyK.cons rfl (fun K hK => ?_) AllReadyK.nil)
    case refine_1 =>
     go_simp
     have hL7 : Blk (w5.drew.alloc (.cells #[.string ⟨d.src.toArray⟩,.string ⟨#[122,122]⟩] 9)) (w5.heap.size) 9 #[.string ⟨d.src.toArray⟩,.string ⟨#[122,122]⟩]:=Blk.at_ _ (by simp)
     replace hmd:=hmd.alloc (.cells #[.string ⟨d.src.toArray⟩,.string ⟨#[122,122]⟩] 9)
     refine hK.out _ _ (trivial) (⟨(hmd.dc hdk).2.1,(hmd.dc hdk).2.2.1⟩) (fun hT hS => ?_)
     clear hK K
     (try simp only [Act.put,Q3,Q4,Q5])
     refine wpAnyK_ready (rs:=[8,14]) (by kernel_rfl) (by simp) ?_
     refine AllReadyK.cons rfl (fun K hK => ?_) (AllReadyK.cons rfl (fun K hK => ?_) AllReadyK.nil)
     case refine_1 =>
      go_simp
      go_at_call 9
      refine (some_lit g _ _ 100 #[.string ⟨d.src.toArray⟩,.string ⟨#[122,122]⟩] [d.src,[122,122]] _ hmd.s (by omega) hL7 rfl (by omega) (by simp) (by simp) (by intro s hs; simp at hs; rcases hs with rfl | rfl <;> first | omega | simp)).mono ?_
      rintro e w6 ⟨x8,rfl,hx8,hs,hg⟩
      replace hmd:=hmd.str hs hg
      have hgw6 : g < w6.heap.size:=hmd.s.lt
      clear hs hg hL7
      go_wp2_with fail
      refine hK.out _ _ (trivial) (⟨(hmd.dc hdk).2.1,(hmd.dc hdk).2.2.1⟩) (fun hT hS => ?_)
      clear hK K
      (try simp only [Act.put,Q3,Q4,Q5])
      refine wpAnyK_ready (rs:=[14]) (by kernel_rfl) (by simp) ?_
      refine AllReadyK.cons rfl (fun K hK => ?_) AllReadyK.nil
      go_simp
      have hL14 : Blk (w6.alloc (.cells #[.string ⟨d.dst.toArray⟩,.string ⟨#[122,122]⟩] 9)) (w6.heap.size) 9 #[.string ⟨d.dst.toArray⟩,.string ⟨#[122,122]⟩]:=Blk.at_ _ (by simp)
      replace hmd:=hmd.alloc (.cells #[.string ⟨d.dst.toArray⟩,.string ⟨#[122,122]⟩] 9)
      refine hK.out _ _ (trivial) (⟨(hmd.dc hdk).2.1,(hmd.dc hdk).2.2.1⟩) (fun hT hS => ?_)
      clear hK K
      (try simp only [Act.put,Q3,Q4,Q5])
      refine wpAnyK_ready (rs:=[15]) (by kernel_rfl) (by simp) ?_
      refine AllReadyK.cons rfl (fun K hK => ?_) AllReadyK.nil
      go_simp
      go_at_call 9
      refine (some_lit g _ _ 100 #[.string ⟨d.dst.toArray⟩,.string ⟨#[122,122]⟩] [d.dst,[122,122]] _ hmd.s (by omega) hL14 rfl (by omega) (by simp) (by simp) (by intro s hs; simp at hs; rcases hs with rfl | rfl <;> first | omega | simp)).mono ?_
      rintro e w7 ⟨x15,rfl,hx15,hs,hg⟩
      replace hmd:=hmd.str hs hg
      have hgw7 : g < w7.heap.size:=hmd.s.lt
      clear hs hg hL14
      go_wp2_with fail
      refine hK.out _ _ (trivial) (⟨(hmd.dc hdk).2.1,(hmd.dc hdk).2.2.1⟩) (fun hT hS => ?_)
      clear hK K
      (try simp only [Act.put,Q3,Q4,Q5])
      (refine wpAnyK_take2 (i:=16) (v:=?_) (by (simp only [Q0,Q1,Q2]; rfl)) (by kernel_rfl) (by kernel_rfl) (by kernel_rfl) (by decide) (by exact fun _ _ _ h => h) (Or.inl ⟨by rfl,?_⟩) (by assumption) (by assumption) ?_; (rotate_left 1; (intro w hSw; (try dsimp only at hSw); go_simp); (try with_reducible rfl)); (try simp only [Act.put,Q3,Q4,Q5]))
      (refine wpAnyK_take2 (i:=17) (v:=?_) (by (simp only [Q0,Q1,Q2]; rfl)) (by kernel_rfl) (by kernel_rfl) (by kernel_rfl) (by decide) (by exact fun _ _ _ h => h) (Or.inl ⟨by rfl,?_⟩) (by assumption) (by assumption) ?_; (rotate_left 1; (intro w hSw; (try dsimp only at hSw); go_simp); (try with_reducible rfl)); (try simp only [Act.put,Q3,Q4,Q5]))
      refine wpAnyK_ready (rs:=[18]) (by kernel_rfl) (by simp) ?_
      refine AllReadyK.consT (by kernel_rfl) rfl (fun K hK => ?_) AllReadyK.nil
      obtain ⟨q0,q1,q2,q3,q4,q5,q6⟩:=hmd.dc hdk
      obtain ⟨zd0,zd1,zd2⟩:=hmd.m.doorFree hmd.hd
      have f1:=zd2 (k * 7 + 1)
      obtain ⟨h8,hdk8⟩:=hmd.setDd hdk (i:=1) (by decide) (.string ⟨x8.toArray⟩) { d with src:=x8 } rfl rfl rfl
      clear zd2
      go_simp
      refine hK.out _ _ (trivial) (fun hT => ?_)
      clear hK K
      (try simp only [Act.put,Q3,Q4,Q5])
      (refine wpAnyK_take3 (i:=19) (v:=?_) (by (simp only [Q0,Q1,Q2]; rfl)) (by kernel_rfl) (by kernel_rfl) (by kernel_rfl) (by decide) (by kernel_rfl) (by exact fun _ _ _ h => h) (Or.inl ⟨by rfl,?_⟩) (by assumption) ?_; (rotate_left 1; (intro w hSw; (try dsimp only at hSw); go_simp); (try with_reducible rfl)); (try simp only [Act.put,Q3,Q4,Q5]))
      (refine wpAnyK_take3 (i:=20) (v:=?_) (by (simp only [Q0,Q1,Q2]; rfl)) (by kernel_rfl) (by kernel_rfl) (by kernel_rfl) (by decide) (by kernel_rfl) (by exact fun _ _ _ h => h) (Or.inl ⟨by rfl,?_⟩) (by assumption) ?_; (rotate_left 1; (intro w hSw; (try dsimp only at hSw); go_simp); (try with_reducible rfl)); (try simp only [Act.put,Q3,Q4,Q5]))
      refine wpAnyK_ready (rs:=[21]) (by kernel_rfl) (by simp) ?_
      refine AllReadyK.consT (by kernel_rfl) rfl (fun K hK => ?_) AllReadyK.nil
      obtain ⟨q0,q1,q2,q3,q4,q5,q6⟩:=h8.dc hdk8
      obtain ⟨zd0,zd1,zd2⟩:=h8.m.doorFree h8.hd
      have f2:=zd2 (k * 7 + 2)
      obtain ⟨h9,-⟩:=h8.setDd hdk8 (i:=2) (by decide) (.string ⟨x15.toArray⟩) { d with src:=x8,dst:=x15 } rfl rfl rfl
      have H9:=Lib.hid h9
      clear zd2 h9
      go_simp
      refine hK.out _ _ (trivial) (fun hT => ?_)
      clear hK K
      (try simp only [Act.put,Q3,Q4,Q5])
      refine wpAnyK_done (by kernel_rfl) ?_ _
      have HB9 : Hid (∀ d' ∈ (ds.set k { d with src:=x8 }).set k { d with src:=x8,dst:=x15 },DoorB d'):=Lib.hid (doorB_set (doorB_set HDB.out ⟨⟨hDd.k.1,by show x8.length ≤ 100; omega,hDd.k.2.2⟩,hDd.t,hDd.n,hDd.x⟩) ⟨⟨hDd.k.1,by show x8.length ≤ 100; omega,by show x15.length ≤ 100; omega,hDd.k.2.2.2⟩,hDd.t,hDd.n,hDd.x⟩)
      clear h8 hmd hdk8 q0 q1 q2 q3 q4 q5 q6
      go_wp2_with fail
      go_meet
      exact ⟨rfl,rfl,A,ca,rs,gD,cd,_,st,gl,H9.out.more (by omega),HRB.out,HB9.out,hr1,hr5,by simpa using hd9,hst,hgl⟩
     case refine_2 =>
      go_simp
      have hL14 : Blk ((w5.drew.alloc (.cells #[.string ⟨d.src.toArray⟩,.string ⟨#[122,122]⟩] 9)).alloc (.cells #[.string ⟨d.dst.toArray⟩,.string ⟨#[122,122]⟩] 9)) (w5.heap.size + 1) 9 #[.string ⟨d.dst.toArray⟩,.string ⟨#[122,122]⟩]:=Blk.at_ _ (by simp)
      replace hmd:=hmd.alloc (.cells #[.string ⟨d.dst.toArray⟩,.string ⟨#[122,122]⟩] 9)
      replace hL7:=hL7.alloc (.cells #[.string ⟨d.dst.toArray⟩,.string ⟨#[122,122]⟩] 9)
      refine hK.out _ _ (trivial) (⟨(hmd.dc hdk).2.1,(hmd.dc hdk).2.2.1⟩) (fun hT hS => ?_)
      clear hK K
      (try simp only [Act.put,Q3,Q4,Q5])
      refine wpAnyK_ready (rs:=[8]) (by kernel_rfl) (by simp) ?_
      refine AllReadyK.cons rfl (fun K hK => ?_) AllReadyK.nil
      go_simp
      go_at_call 9
      refine (some_lit g _ _ 100 #[.string ⟨d.src.toArray⟩,.string ⟨#[122,122]⟩] [d.src,[122,122]] _ hmd.s (by omega) hL7 rfl (by omega) (by simp) (by simp) (by intro s hs; simp at hs; rcases hs with rfl | rfl <;> first | omega | simp)).mono ?_
      rintro e w6 ⟨x8,rfl,hx8,hs,hg⟩
      replace hmd:=hmd.str hs hg
      have hgw6 : g < w6.heap.size:=hmd.s.lt
      replace hL14:=hL14.grown hg (by omega)
      clear hs hg hL7
      go_wp2_with fail
      refine hK.out _ _ (trivial) (⟨(hmd.dc hdk).2.1,(hmd.dc hdk).2.2.1⟩) (fun hT hS => ?_)
      clear hK K
      (try simp only [Act.put,Q3,Q4,Q5])
      refine wpAnyK_ready (rs:=[15]) (by kernel_rfl) (by simp) ?_
      refine AllReadyK.cons rfl (fun K hK => ?_) AllReadyK.nil
      go_simp
      go_at_call 9
      refine (some_lit g _ _ 100 #[.string ⟨d.dst.toArray⟩,.string ⟨#[122,122]⟩] [d.dst,[122,122]] _ hmd.s (by omega) hL14 rfl (by omega) (by simp) (by simp) (by intro s hs; simp at hs; rcases hs with rfl | rfl <;> first | omega | simp)).mono ?_
      rintro e w7 ⟨x15,rfl,hx15,hs,hg⟩
      replace hmd:=hmd.str hs hg
      have hgw7 : g < w7.heap.size:=hmd.s.lt
      clear hs hg hL14
      go_wp2_with fail
      refine hK.out _ _ (trivial) (⟨(hmd.dc hdk).2.1,(hmd.dc hdk).2.2.1⟩) (fun hT hS => ?_)
      clear hK K
      (try simp only [Act.put,Q3,Q4,Q5])
      (refine wpAnyK_take2 (i:=16) (v:=?_) (by (simp only [Q0,Q1,Q2]; rfl)) (by kernel_rfl) (by kernel_rfl) (by kernel_rfl) (by decide) (by exact fun _ _ _ h => h) (Or.inl ⟨by rfl,?_⟩) (by assumption) (by assumption) ?_; (rotate_left 1; (intro w hSw; (try dsimp only at hSw); go_simp); (try with_reducible rfl)); (try simp only [Act.put,Q3,Q4,Q5]))
      (refine wpAnyK_take2 (i:=17) (v:=?_) (by (simp only [Q0,Q1,Q2]; rfl)) (by kernel_rfl) (by kernel_rfl) (by kernel_rfl) (by decide) (by exact fun _ _ _ h => h) (Or.inl ⟨by rfl,?_⟩) (by assumption) (by assumption) ?_; (rotate_left 1; (intro w hSw; (try dsimp only at hSw); go_simp); (try with_reducible rfl)); (try simp only [Act.put,Q3,Q4,Q5]))
      refine wpAnyK_ready (rs:=[18]) (by kernel_rfl) (by simp) ?_
      refine AllReadyK.consT (by kernel_rfl) rfl (fun K hK => ?_) AllReadyK.nil
      obtain ⟨q0,q1,q2,q3,q4,q5,q6⟩:=hmd.dc hdk
      obtain ⟨zd0,zd1,zd2⟩:=hmd.m.doorFree hmd.hd
      have f1:=zd2 (k * 7 + 1)
      obtain ⟨h8,hdk8⟩:=hmd.setDd hdk (i:=1) (by decide) (.string ⟨x8.toArray⟩) { d with src:=x8 } rfl rfl rfl
      clear zd2
      go_simp
      refine hK.out _ _ (trivial) (fun hT => ?_)
      clear hK K
      (try simp only [Act.put,Q3,Q4,Q5])
      (refine wpAnyK_take3 (i:=19) (v:=?_) (by (simp only [Q0,Q1,Q2]; rfl)) (by kernel_rfl) (by kernel_rfl) (by kernel_rfl) (by decide) (by kernel_rfl) (by exact fun _ _ _ h => h) (Or.inl ⟨by rfl,?_⟩) (by assumption) ?_; (rotate_left 1; (intro w hSw; (try dsimp only at hSw); go_simp); (try with_reducible rfl)); (try simp only [Act.put,Q3,Q4,Q5]))
      (refine wpAnyK_take3 (i:=20) (v:=?_) (by (simp only [Q0,Q1,Q2]; rfl)) (by kernel_rfl) (by kernel_rfl) (by kernel_rfl) (by decide) (by kernel_rfl) (by exact fun _ _ _ h => h) (Or.inl ⟨by rfl,?_⟩) (by assumption) ?_; (rotate_left 1; (intro w hSw; (try dsimp only at hSw); go_simp); (try with_reducible rfl)); (try simp only [Act.put,Q3,Q4,Q5]))
      refine wpAnyK_ready (rs:=[21]) (by kernel_rfl) (by simp) ?_
      refine AllReadyK.consT (by kernel_rfl) rfl (fun K hK => ?_) AllReadyK.nil
      obtain ⟨q0,q1,q2,q3,q4,q5,q6⟩:=h8.dc hdk8
      obtain ⟨zd0,zd1,zd2⟩:=h8.m.doorFree h8.hd
      have f2:=zd2 (k * 7 + 2)
      obtain ⟨h9,-⟩:=h8.setDd hdk8 (i:=2) (by decide) (.string ⟨x15.toArray⟩) { d with src:=x8,dst:=x15 } rfl rfl rfl
      have H9:=Lib.hid h9
      clear zd2 h9
      go_simp
      refine hK.out _ _ (trivial) (fun hT => ?_)
      clear hK K
      (try simp only [Act.put,Q3,Q4,Q5])
      refine wpAnyK_done (by kernel_rfl) ?_ _
      have HB9 : Hid (∀ d' ∈ (ds.set k { d with src:=x8 }).set k { d with src:=x8,dst:=x15 },DoorB d'):=Lib.hid (doorB_set (doorB_set HDB.out ⟨⟨hDd.k.1,by show x8.length ≤ 100; omega,hDd.k.2.2⟩,hDd.t,hDd.n,hDd.x⟩) ⟨⟨hDd.k.1,by show x8.length ≤ 100; omega,by show x15.length ≤ 100; omega,hDd.k.2.2.2⟩,hDd.t,hDd.n,hDd.x⟩)
      clear h8 hmd hdk8 q0 q1 q2 q3 q4 q5 q6
      go_wp2_with fail
      go_meet
      exact ⟨rfl,rfl,A,ca,rs,gD,cd,_,st,gl,H9.out.more (by omega),HRB.out,HB9.out,hr1,hr5,by simpa using hd9,hst,hgl⟩
    case refine_2 =>
     go_simp
     have hL14 : Blk (w5.drew.alloc (.cells #[.string ⟨d.dst.toArray⟩,.string ⟨#[122,122]⟩] 9)) (w5.heap.size) 9 #[.string ⟨d.dst.toArray⟩,.string ⟨#[122,122]⟩]:=Blk.at_ _ (by simp)
     replace hmd:=hmd.alloc (.cells #[.string ⟨d.dst.toArray⟩,.string ⟨#[122,122]⟩] 9)
     refine hK.out _ _ (trivial) (⟨(hmd.dc hdk).2.1,(hmd.dc hdk).2.2.1⟩) (fun hT hS => ?_)
     clear hK K
     (try simp only [Act.put,Q3,Q4,Q5])
     refine wpAnyK_ready (rs:=[7]) (by kernel_rfl) (by simp) ?_
     refine AllReadyK.cons rfl (fun K hK => ?_) AllReadyK.nil
     go_simp
     have hL7 : Blk ((w5.drew.alloc (.cells #[.string ⟨d.dst.toArray⟩,.string ⟨#[122,122]⟩] 9)).alloc (.cells #[.string ⟨d.src.toArray⟩,.string ⟨#[122,122]⟩] 9)) (w5.heap.size + 1) 9 #[.string ⟨d.src.toArray⟩,.string ⟨#[122,122]⟩]:=Blk.at_ _ (by simp)
     replace hmd:=hmd.alloc (.cells #[.string ⟨d.src.toArray⟩,.string ⟨#[122,122]⟩] 9)
     replace hL14:=hL14.alloc (.cells #[.string ⟨d.src.toArray⟩,.string ⟨#[122,122]⟩] 9)
     refine hK.out _ _ (trivial) (⟨(hmd.dc hdk).2.1,(hmd.dc hdk).2.2.1⟩) (fun hT hS => ?_)
     clear hK K
     (try simp only [Act.put,Q3,Q4,Q5])
     refine wpAnyK_ready (rs:=[8]) (by kernel_rfl) (by simp) ?_
     refine AllReadyK.cons rfl (fun K hK => ?_) AllReadyK.nil
     go_simp
     go_at_call 9
     refine (some_lit g _ _ 100 #[.string ⟨d.src.toArray⟩,.string ⟨#[122,122]⟩] [d.src,[122,122]] _ hmd.s (by omega) hL7 rfl (by omega) (by simp) (by simp) (by intro s hs; simp at hs; rcases hs with rfl | rfl <;> first | omega | simp)).mono ?_
     rintro e w6 ⟨x8,rfl,hx8,hs,hg⟩
     replace hmd:=hmd.str hs hg
     have hgw6 : g < w6.heap.size:=hmd.s.lt
     replace hL14:=hL14.grown hg (by omega)
     clear hs hg hL7
     go_wp2_with fail
     refine hK.out _ _ (trivial) (⟨(hmd.dc hdk).2.1,(hmd.dc hdk).2.2.1⟩) (fun hT hS => ?_)
     clear hK K
     (try simp only [Act.put,Q3,Q4,Q5])
     refine wpAnyK_ready (rs:=[15]) (by kernel_rfl) (by simp) ?_
     refine AllReadyK.cons rfl (fun K hK => ?_) AllReadyK.nil
     go_simp
     go_at_call 9
     refine (some_lit g _ _ 100 #[.string ⟨d.dst.toArray⟩,.string ⟨#[122,122]⟩] [d.dst,[122,122]] _ hmd.s (by omega) hL14 rfl (by omega) (by simp) (by simp) (by intro s hs; simp at hs; rcases hs with rfl | rfl <;> first | omega | simp)).mono ?_
     rintro e w7 ⟨x15,rfl,hx15,hs,hg⟩
     replace hmd:=hmd.str hs hg
     have hgw7 : g < w7.heap.size:=hmd.s.lt
     clear hs hg hL14
     go_wp2_with fail
     refine hK.out _ _ (trivial) (⟨(hmd.dc hdk).2.1,(hmd.dc hdk).2.2.1⟩) (fun hT hS => ?_)
     clear hK K
     (try simp only [Act.put,Q3,Q4,Q5])
     (refine wpAnyK_take2 (i:=16) (v:=?_) (by (simp only [Q0,Q1,Q2]; rfl)) (by kernel_rfl) (by kernel_rfl) (by kernel_rfl) (by decide) (by exact fun _ _ _ h => h) (Or.inl ⟨by rfl,?_⟩) (by assumption) (by assumption) ?_; (rotate_left 1; (intro w hSw; (try dsimp only at hSw); go_simp); (try with_reducible rfl)); (try simp only [Act.put,Q3,Q4,Q5]))
     (refine wpAnyK_take2 (i:=17) (v:=?_) (by (simp only [Q0,Q1,Q2]; rfl)) (by kernel_rfl) (by kernel_rfl) (by kernel_rfl) (by decide) (by exact fun _ _ _ h => h) (Or.inl ⟨by rfl,?_⟩) (by assumption) (by assumption) ?_; (rotate_left 1; (intro w hSw; (try dsimp only at hSw); go_simp); (try with_reducible rfl)); (try simp only [Act.put,Q3,Q4,Q5]))
     refine wpAnyK_ready (rs:=[18]) (by kernel_rfl) (by simp) ?_
     refine AllReadyK.consT (by kernel_rfl) rfl (fun K hK => ?_) AllReadyK.nil
     obtain ⟨q0,q1,q2,q3,q4,q5,q6⟩:=hmd.dc hdk
     obtain ⟨zd0,zd1,zd2⟩:=hmd.m.doorFree hmd.hd
     have f1:=zd2 (k * 7 + 1)
     obtain ⟨h8,hdk8⟩:=hmd.setDd hdk (i:=1) (by decide) (.string ⟨x8.toArray⟩) { d with src:=x8 } rfl rfl rfl
     clear zd2
     go_simp
     refine hK.out _ _ (trivial) (fun hT => ?_)
     clear hK K
     (try simp only [Act.put,Q3,Q4,Q5])
     (refine wpAnyK_take3 (i:=19) (v:=?_) (by (simp only [Q0,Q1,Q2]; rfl)) (by kernel_rfl) (by kernel_rfl) (by kernel_rfl) (by decide) (by kernel_rfl) (by exact fun _ _ _ h => h) (Or.inl ⟨by rfl,?_⟩) (by assumption) ?_; (rotate_left 1; (intro w hSw; (try dsimp only at hSw); go_simp); (try with_reducible rfl)); (try simp only [Act.put,Q3,Q4,Q5]))
     (refine wpAnyK_take3 (i:=20) (v:=?_) (by (simp only [Q0,Q1,Q2]; rfl)) (by kernel_rfl) (by kernel_rfl) (by kernel_rfl) (by decide) (by kernel_rfl) (by exact fun _ _ _ h => h) (Or.inl ⟨by rfl,?_⟩) (by assumption) ?_; (rotate_left 1; (intro w hSw; (try dsimp only at hSw); go_simp); (try with_reducible rfl)); (try simp only [Act.put,Q3,Q4,Q5]))
     refine wpAnyK_ready (rs:=[21]) (by kernel_rfl) (by simp) ?_
     refine AllReadyK.consT (by kernel_rfl) rfl (fun K hK => ?_) AllReadyK.nil
     obtain ⟨q0,q1,q2,q3,q4,q5,q6⟩:=h8.dc hdk8
     obtain ⟨zd0,zd1,zd2⟩:=h8.m.doorFree h8.hd
     have f2:=zd2 (k * 7 + 2)
     obtain ⟨h9,-⟩:=h8.setDd hdk8 (i:=2) (by decide) (.string ⟨x15.toArray⟩) { d with src:=x8,dst:=x15 } rfl rfl rfl
     have H9:=Lib.hid h9
     clear zd2 h9
     go_simp
     refine hK.out _ _ (trivial) (fun hT => ?_)
     clear hK K
     (try simp only [Act.put,Q3,Q4,Q5])
     refine wpAnyK_done (by kernel_rfl) ?_ _
     have HB9 : Hid (∀ d' ∈ (ds.set k { d with src:=x8 }).set k { d with src:=x8,dst:=x15 },DoorB d'):=Lib.hid (doorB_set (doorB_set HDB.out ⟨⟨hDd.k.1,by show x8.length ≤ 100; omega,hDd.k.2.2⟩,hDd.t,hDd.n,hDd.x⟩) ⟨⟨hDd.k.1,by show x8.length ≤ 100; omega,by show x15.length ≤ 100; omega,hDd.k.2.2.2⟩,hDd.t,hDd.n,hDd.x⟩)
     clear h8 hmd hdk8 q0 q1 q2 q3 q4 q5 q6
     go_wp2_with fail
     go_meet
     exact ⟨rfl,rfl,A,ca,rs,gD,cd,_,st,gl,H9.out.more (by omega),HRB.out,HB9.out,hr1,hr5,by simpa using hd9,hst,hgl⟩
   ·go_wp2_with fail
    refine (some_lit g _ w5.heap.size 100 #[.string ⟨#[109,97,112]⟩,.string ⟨#[65]⟩] [[109,97,112],[65]] _ (hmd.s.alloc _) (by omega) (Blk.new _ _ _) rfl hmd.s.lt (by decide) (by decide) (by decide)).mono ?_
    rintro e w6 ⟨x1,rfl,hx1,hs6,hg6⟩
    replace hmd:=(hmd.alloc (.cells #[.string ⟨#[109,97,112]⟩,.string ⟨#[65]⟩] 9)).str hs6 hg6
    clear hs6 hg6
    go_wp2_with fail
    refine (some_lit g _ w6.heap.size 100 #[.string ⟨#[107,101,121]⟩,.string ⟨#[122,97,112]⟩] [[107,101,121],[122,97,112]] _ (hmd.s.alloc _) (by omega) (Blk.new _ _ _) rfl hmd.s.lt (by decide) (by decide) (by decide)).mono ?_
    rintro e w7 ⟨x2,rfl,hx2,hs7,hg7⟩
    replace hmd:=(hmd.alloc (.cells #[.string ⟨#[107,101,121]⟩,.string ⟨#[122,97,112]⟩] 9)).str hs7 hg7
    clear hs7 hg7
    have zw7:=hmd.gr.size
    have zr7:=hmd.res.lt
    obtain ⟨q0,q1,q2,q3,q4,q5,q6⟩:=(hmd.alloc (.cells #[.string ⟨x1.toArray⟩,.string ⟨x2.toArray⟩] 9)).dc hdk
    have hlo:=own_lit2 w7 (w.heap.size + 1) x1 x2 (by omega)
    have hmA:=hmd.alloc (.cells #[.string ⟨x1.toArray⟩,.string ⟨x2.toArray⟩] 9)
    obtain ⟨zd0,zd1,zd2⟩:=hmA.m.doorFree hmA.hd
    have f4:=zd2 (k * 7 + 4)
    obtain ⟨hkk,hke⟩:=List.getElem?_eq_some_iff.1 hdk
    have h9:=hmA.setD hkk (i:=4) (by decide) (.slice (some ⟨w7.heap.size,0,none⟩) 2 2) { d with N:=some ⟨w7.heap.size,0,none⟩,needs:=[x1,x2],nc:=2 } (by rw [hke]; rfl) (own_setT hlo hmA.m.doors rfl (by decide) _ _) (own_setT (hmA.m.dl (d.T,d.takes,d.tc) (List.mem_flatMap.2 ⟨d,by rw [← hke]; exact List.getElem_mem _,by simp⟩)) hmA.m.doors rfl (by decide) _ _)
    have HB9 : Hid (∀ d' ∈ ds.set k { d with N:=some ⟨w7.heap.size,0,none⟩,needs:=[x1,x2],nc:=2 },DoorB d'):=Lib.hid (doorB_set HDB.out ⟨hDd.k,hDd.t,⟨by show [x1,x2].length ≤ 10; simp,fun s hs => by
     have hs : s ∈ [x1,x2]:=hs
     simp at hs; rcases hs with rfl | rfl <;> omega⟩,hDd.x⟩)
    have zgD : gD < w7.heap.size:=(hmd.m.doorFree hmd.hd).2.1
    rw [World.setCell_alloc_past _ _ _ _ zgD] at h9
    have H9:=Lib.hid h9
    have q4' : w7.cell? ⟨gD,k * 7 + 4,none⟩ = some (.slice d.N d.needs.length d.nc):=(hmd.dc hdk).2.2.2.2.1
    have f4':=(hmd.m.doorFree hmd.hd).2.2 (k * 7 + 4)
    have zg7:=(hmd.m.doorFree hmd.hd).2.1
    clear h9 hmd hmA zd2 hlo hke
    go_wp2_with fail
    go_meet
    exact ⟨rfl,rfl,A,ca,rs,gD,cd,_,st,gl,H9.out.more (by omega),HRB.out,HB9.out,hr1,hr5,by simpa using hd9,hst,hgl⟩
   ·obtain ⟨gA,hA,-,-,-,-⟩:=ownBlk hmd.m.rooms (by omega)
    subst hA
    have hi0 : (0 : Int) < (rs.length : Int):=by omega
    have hi1 : 0 < rs.length:=by omega
    go_upto_region 13 with (fail)
    replace hmd:=hmd.drew
    refine wp_region_held_drew (S:=(fun w' => w'.cell? ⟨mb,0,none⟩ = some (.slice (some ⟨gA,0,none⟩) rs.length ca))) (by kernel_rfl) (hmd.box.cell 0) (fun hHeld => ?_)
    (refine QT (i:=0) (v:=?_) ?_ ?_; (rotate_left 1; (intro w hSw; (try dsimp only at hSw); go_simp); (try with_reducible rfl)); (try simp only [Act.put,Q3,Q4,Q5]))
    (refine QT (i:=1) (v:=?_) ?_ ?_; (rotate_left 1; (intro w hSw; (try dsimp only at hSw); go_simp); (try with_reducible rfl)); (try simp only [Act.put,Q3,Q4,Q5]))
    (refine QT (i:=2) (v:=?_) ?_ ?_; (rotate_left 1; (intro w hSw; (try dsimp only at hSw); go_simp); (try with_reducible rfl)); (try simp only [Act.put,Q3,Q4,Q5]))
    (refine QT (i:=5) (v:=?_) ?_ ?_; (rotate_left 1; (intro w hSw; (try dsimp only at hSw); go_simp); (try with_reducible rfl)); (try simp only [Act.put,Q3,Q4,Q5]))
    refine wpAnyH_ready (rs:=[3,6]) (by kernel_rfl) (by simp) ?_
    refine AllReadyH.cons rfl (fun K hK => ?_) (AllReadyH.cons rfl (fun K hK => ?_) AllReadyH.nil)
    case refine_1 =>
     go_simp
     have hL3 : Blk (w5.drew.alloc (.cells #[.string ⟨#[114,97]⟩,.string ⟨#[]⟩,.string ⟨#[114,122]⟩] 9)) (w5.heap.size) 9 #[.string ⟨#[114,97]⟩,.string ⟨#[]⟩,.string ⟨#[114,122]⟩]:=Blk.at_ _ (by simp)
     replace hmd:=hmd.alloc (.cells #[.string ⟨#[114,97]⟩,.string ⟨#[]⟩,.string ⟨#[114,122]⟩] 9)
     refine hK.out _ _ (hmd.box.cell 0) (fun hHeld => ?_)
     clear hK K
     (try simp only [Act.put,Q3,Q4,Q5])
     refine wpAnyH_ready (rs:=[4,6]) (by kernel_rfl) (by simp) ?_
     refine AllReadyH.cons rfl (fun K hK => ?_) (AllReadyH.cons rfl (fun K hK => ?_) AllReadyH.nil)
     case refine_1 =>
      go_simp
      go_at_call 9
      refine (some_lit g _ _ 100 #[.string ⟨#[114,97]⟩,.string ⟨#[]⟩,.string ⟨#[114,122]⟩] [[114,97],[],[114,122]] _ hmd.s (by omega) hL3 rfl (by omega) (by simp) (by simp) (by decide)).mono ?_
      rintro e w6 ⟨x4,rfl,hx4,hs,hg⟩
      replace hmd:=hmd.str hs hg
      have hgw6 : g < w6.heap.size:=hmd.s.lt
      clear hs hg hL3
      go_wp2_with fail
      refine hK.out _ _ (hmd.box.cell 0) (fun hHeld => ?_)
      clear hK K
      (try simp only [Act.put,Q3,Q4,Q5])
      refine wpAnyH_ready (rs:=[6]) (by kernel_rfl) (by simp) ?_
      refine AllReadyH.cons rfl (fun K hK => ?_) AllReadyH.nil
      go_simp
      have hL6 : Blk (w6.alloc (.cells #[.string ⟨#[114,97]⟩,.string ⟨#[122,122]⟩] 9)) (w6.heap.size) 9 #[.string ⟨#[114,97]⟩,.string ⟨#[122,122]⟩]:=Blk.at_ _ (by simp)
      replace hmd:=hmd.alloc (.cells #[.string ⟨#[114,97]⟩,.string ⟨#[122,122]⟩] 9)
      refine hK.out _ _ (hmd.box.cell 0) (fun hHeld => ?_)
      clear hK K
      (try simp only [Act.put,Q3,Q4,Q5])
      refine wpAnyH_ready (rs:=[7]) (by kernel_rfl) (by simp) ?_
      refine AllReadyH.cons rfl (fun K hK => ?_) AllReadyH.nil
      go_simp
      go_at_call 9
      refine (some_lit g _ _ 100 #[.string ⟨#[114,97]⟩,.string ⟨#[122,122]⟩] [[114,97],[122,122]] _ hmd.s (by omega) hL6 rfl (by omega) (by simp) (by simp) (by decide)).mono ?_
      rintro e w7 ⟨x7,rfl,hx7,hs,hg⟩
      replace hmd:=hmd.str hs hg
      have hgw7 : g < w7.heap.size:=hmd.s.lt
      clear hs hg hL6
      go_wp2_with fail
      refine hK.out _ _ (hmd.box.cell 0) (fun hHeld => ?_)
      clear hK K
      (try simp only [Act.put,Q3,Q4,Q5])
      (refine QT (i:=8) (v:=?_) ?_ ?_; (rotate_left 1; (intro w hSw; (try dsimp only at hSw); go_simp); (try with_reducible rfl)); (try simp only [Act.put,Q3,Q4,Q5]))
      (refine QT (i:=9) (v:=?_) ?_ ?_; (rotate_left 1; (intro w hSw; (try dsimp only at hSw); go_simp); (try with_reducible rfl)); (try simp only [Act.put,Q3,Q4,Q5]))
      refine wpAnyH_ready (rs:=[10]) (by kernel_rfl) (by simp) ?_
      refine AllReadyH.cons rfl (fun K hK => ?_) AllReadyH.nil
      obtain ⟨g',e',-,zr2,zr3,zr4⟩:=ownBlk hmd.m.rooms (by omega)
      injection e' with e'
      injection e' with e'
      subst e'
      have q0 : w7.cell? ⟨gA,0,none⟩ = some (encStr rs[0].key):=zr3 0 _ (by
       have:=flat_at encR 2 encR_len rs 0 (by omega) 0 (by decide)
       rw [show (0 : Nat) * 2 + 0 = 0 from rfl] at this
       rw [this]; rfl)
      unfold encStr at q0
      have f0:=zr4 0
      have h8:=hmd.setR (k:=0) (by omega) (.string ⟨x4.toArray⟩) { rs[0] with key:=x4 } rfl rfl
      clear zr3 zr4
      go_simp
      refine hK.out _ _ ((by have:=h8.box.cell 0; simpa using this)) (fun hHeld => ?_)
      clear hK K
      (try simp only [Act.put,Q3,Q4,Q5])
      (refine QT (i:=11) (v:=?_) ?_ ?_; (rotate_left 1; (intro w hSw; (try dsimp only at hSw); go_simp); (try with_reducible rfl)); (try simp only [Act.put,Q3,Q4,Q5]))
      refine wpAnyH_ready (rs:=[12]) (by kernel_rfl) (by simp) ?_
      refine AllReadyH.cons rfl (fun K hK => ?_) AllReadyH.nil
      obtain ⟨m0,m1,m2,m3⟩ : _ ∧ _ ∧ _ ∧ _:=⟨h8.box.cell 0,h8.box.cell 1,h8.box.cell 2,h8.box.cell 3⟩
      simp only [Q0,Q2,Q1] at m0 m1 m2 m3
      have g2:=h8.box.thaw 2
      have zb2:=h8.box.lt
      have h9:=h8.setBox 2 (.string ⟨x7.toArray⟩) x7 gl rfl
      have H9:=Lib.hid h9
      clear h9
      go_simp
      refine hK.out _ _ ((by have:=H9.out.box.cell 0; simpa using this)) (fun hHeld => ?_)
      clear hK K
      (try simp only [Act.put,Q3,Q4,Q5])
      refine wpAnyH_done (by kernel_rfl) ?_ _
      have HB9 : Hid (∀ r' ∈ rs.set 0 { rs[0] with key:=x4 },RoomB r'):=Lib.hid (roomB_set HRB.out ⟨by show x4.length ≤ 100; omega,(HRB.out _ (List.getElem_mem (show 0 < rs.length by omega))).g⟩)
      clear h8 hmd m0 m1 m2 m3
      go_wp2_with fail
      go_meet
      exact ⟨rfl,rfl,_,ca,_,gD,cd,ds,x7,gl,H9.out.more (by omega),HB9.out,HDB.out,by simpa using hr1,by simpa using hr5,hd9,by omega,hgl⟩
     case refine_2 =>
      go_simp
      have hL6 : Blk ((w5.drew.alloc (.cells #[.string ⟨#[114,97]⟩,.string ⟨#[]⟩,.string ⟨#[114,122]⟩] 9)).alloc (.cells #[.string ⟨#[114,97]⟩,.string ⟨#[122,122]⟩] 9)) (w5.heap.size + 1) 9 #[.string ⟨#[114,97]⟩,.string ⟨#[122,122]⟩]:=Blk.at_ _ (by simp)
      replace hmd:=hmd.alloc (.cells #[.string ⟨#[114,97]⟩,.string ⟨#[122,122]⟩] 9)
      replace hL3:=hL3.alloc (.cells #[.string ⟨#[114,97]⟩,.string ⟨#[122,122]⟩] 9)
      refine hK.out _ _ (hmd.box.cell 0) (fun hHeld => ?_)
      clear hK K
      (try simp only [Act.put,Q3,Q4,Q5])
      refine wpAnyH_ready (rs:=[4]) (by kernel_rfl) (by simp) ?_
      refine AllReadyH.cons rfl (fun K hK => ?_) AllReadyH.nil
      go_simp
      go_at_call 9
      refine (some_lit g _ _ 100 #[.string ⟨#[114,97]⟩,.string ⟨#[]⟩,.string ⟨#[114,122]⟩] [[114,97],[],[114,122]] _ hmd.s (by omega) hL3 rfl (by omega) (by simp) (by simp) (by decide)).mono ?_
      rintro e w6 ⟨x4,rfl,hx4,hs,hg⟩
      replace hmd:=hmd.str hs hg
      have hgw6 : g < w6.heap.size:=hmd.s.lt
      replace hL6:=hL6.grown hg (by omega)
      clear hs hg hL3
      go_wp2_with fail
      refine hK.out _ _ (hmd.box.cell 0) (fun hHeld => ?_)
      clear hK K
      (try simp only [Act.put,Q3,Q4,Q5])
      refine wpAnyH_ready (rs:=[7]) (by kernel_rfl) (by simp) ?_
      refine AllReadyH.cons rfl (fun K hK => ?_) AllReadyH.nil
      go_simp
      go_at_call 9
      refine (some_lit g _ _ 100 #[.string ⟨#[114,97]⟩,.string ⟨#[122,122]⟩] [[114,97],[122,122]] _ hmd.s (by omega) hL6 rfl (by omega) (by simp) (by simp) (by decide)).mono ?_
      rintro e w7 ⟨x7,rfl,hx7,hs,hg⟩
      replace hmd:=hmd.str hs hg
      have hgw7 : g < w7.heap.size:=hmd.s.lt
      clear hs hg hL6
      go_wp2_with fail
      refine hK.out _ _ (hmd.box.cell 0) (fun hHeld => ?_)
      clear hK K
      (try simp only [Act.put,Q3,Q4,Q5])
      (refine QT (i:=8) (v:=?_) ?_ ?_; (rotate_left 1; (intro w hSw; (try dsimp only at hSw); go_simp); (try with_reducible rfl)); (try simp only [Act.put,Q3,Q4,Q5]))
      (refine QT (i:=9) (v:=?_) ?_ ?_; (rotate_left 1; (intro w hSw; (try dsimp only at hSw); go_simp); (try with_reducible rfl)); (try simp only [Act.put,Q3,Q4,Q5]))
      refine wpAnyH_ready (rs:=[10]) (by kernel_rfl) (by simp) ?_
      refine AllReadyH.cons rfl (fun K hK => ?_) AllReadyH.nil
      obtain ⟨g',e',-,zr2,zr3,zr4⟩:=ownBlk hmd.m.rooms (by omega)
      injection e' with e'
      injection e' with e'
      subst e'
      have q0 : w7.cell? ⟨gA,0,none⟩ = some (encStr rs[0].key):=zr3 0 _ (by
       have:=flat_at encR 2 encR_len rs 0 (by omega) 0 (by decide)
       rw [show (0 : Nat) * 2 + 0 = 0 from rfl] at this
       rw [this]; rfl)
      unfold encStr at q0
      have f0:=zr4 0
      have h8:=hmd.setR (k:=0) (by omega) (.string ⟨x4.toArray⟩) { rs[0] with key:=x4 } rfl rfl
      clear zr3 zr4
      go_simp
      refine hK.out _ _ ((by have:=h8.box.cell 0; simpa using this)) (fun hHeld => ?_)
      clear hK K
      (try simp only [Act.put,Q3,Q4,Q5])
      (refine QT (i:=11) (v:=?_) ?_ ?_; (rotate_left 1; (intro w hSw; (try dsimp only at hSw); go_simp); (try with_reducible rfl)); (try simp only [Act.put,Q3,Q4,Q5]))
      refine wpAnyH_ready (rs:=[12]) (by kernel_rfl) (by simp) ?_
      refine AllReadyH.cons rfl (fun K hK => ?_) AllReadyH.nil
      obtain ⟨m0,m1,m2,m3⟩ : _ ∧ _ ∧ _ ∧ _:=⟨h8.box.cell 0,h8.box.cell 1,h8.box.cell 2,h8.box.cell 3⟩
      simp only [Q0,Q2,Q1] at m0 m1 m2 m3
      have g2:=h8.box.thaw 2
      have zb2:=h8.box.lt
      have h9:=h8.setBox 2 (.string ⟨x7.toArray⟩) x7 gl rfl
      have H9:=Lib.hid h9
      clear h9
      go_simp
      refine hK.out _ _ ((by have:=H9.out.box.cell 0; simpa using this)) (fun hHeld => ?_)
      clear hK K
      (try simp only [Act.put,Q3,Q4,Q5])
      refine wpAnyH_done (by kernel_rfl) ?_ _
      have HB9 : Hid (∀ r' ∈ rs.set 0 { rs[0] with key:=x4 },RoomB r'):=Lib.hid (roomB_set HRB.out ⟨by show x4.length ≤ 100; omega,(HRB.out _ (List.getElem_mem (show 0 < rs.length by omega))).g⟩)
      clear h8 hmd m0 m1 m2 m3
      go_wp2_with fail
      go_meet
      exact ⟨rfl,rfl,_,ca,_,gD,cd,ds,x7,gl,H9.out.more (by omega),HB9.out,HDB.out,by simpa using hr1,by simpa using hr5,hd9,by omega,hgl⟩
    case refine_2 =>
     go_simp
     have hL6 : Blk (w5.drew.alloc (.cells #[.string ⟨#[114,97]⟩,.string ⟨#[122,122]⟩] 9)) (w5.heap.size) 9 #[.string ⟨#[114,97]⟩,.string ⟨#[122,122]⟩]:=Blk.at_ _ (by simp)
     replace hmd:=hmd.alloc (.cells #[.string ⟨#[114,97]⟩,.string ⟨#[122,122]⟩] 9)
     refine hK.out _ _ (hmd.box.cell 0) (fun hHeld => ?_)
     clear hK K
     (try simp only [Act.put,Q3,Q4,Q5])
     refine wpAnyH_ready (rs:=[3]) (by kernel_rfl) (by simp) ?_
     refine AllReadyH.cons rfl (fun K hK => ?_) AllReadyH.nil
     go_simp
     have hL3 : Blk ((w5.drew.alloc (.cells #[.string ⟨#[114,97]⟩,.string ⟨#[122,122]⟩] 9)).alloc (.cells #[.string ⟨#[114,97]⟩,.string ⟨#[]⟩,.string ⟨#[114,122]⟩] 9)) (w5.heap.size + 1) 9 #[.string ⟨#[114,97]⟩,.string ⟨#[]⟩,.string ⟨#[114,122]⟩]:=Blk.at_ _ (by simp)
     replace hmd:=hmd.alloc (.cells #[.string ⟨#[114,97]⟩,.string ⟨#[]⟩,.string ⟨#[114,122]⟩] 9)
     replace hL6:=hL6.alloc (.cells #[.string ⟨#[114,97]⟩,.string ⟨#[]⟩,.string ⟨#[114,122]⟩] 9)
     refine hK.out _ _ (hmd.box.cell 0) (fun hHeld => ?_)
     clear hK K
     (try simp only [Act.put,Q3,Q4,Q5])
     refine wpAnyH_ready (rs:=[4]) (by kernel_rfl) (by simp) ?_
     refine AllReadyH.cons rfl (fun K hK => ?_) AllReadyH.nil
     go_simp
     go_at_call 9
     refine (some_lit g _ _ 100 #[.string ⟨#[114,97]⟩,.string ⟨#[]⟩,.string ⟨#[114,122]⟩] [[114,97],[],[114,122]] _ hmd.s (by omega) hL3 rfl (by omega) (by simp) (by simp) (by decide)).mono ?_
     rintro e w6 ⟨x4,rfl,hx4,hs,hg⟩
     replace hmd:=hmd.str hs hg
     have hgw6 : g < w6.heap.size:=hmd.s.lt
     replace hL6:=hL6.grown hg (by omega)
     clear hs hg hL3
     go_wp2_with fail
     refine hK.out _ _ (hmd.box.cell 0) (fun hHeld => ?_)
     clear hK K
     (try simp only [Act.put,Q3,Q4,Q5])
     refine wpAnyH_ready (rs:=[7]) (by kernel_rfl) (by simp) ?_
     refine AllReadyH.cons rfl (fun K hK => ?_) AllReadyH.nil
     go_simp
     go_at_call 9
     refine (some_lit g _ _ 100 #[.string ⟨#[114,97]⟩,.string ⟨#[122,122]⟩] [[114,97],[122,122]] _ hmd.s (by omega) hL6 rfl (by omega) (by simp) (by simp) (by decide)).mono ?_
     rintro e w7 ⟨x7,rfl,hx7,hs,hg⟩
     replace hmd:=hmd.str hs hg
     have hgw7 : g < w7.heap.size:=hmd.s.lt
     clear hs hg hL6
     go_wp2_with fail
     refine hK.out _ _ (hmd.box.cell 0) (fun hHeld => ?_)
     clear hK K
     (try simp only [Act.put,Q3,Q4,Q5])
     (refine QT (i:=8) (v:=?_) ?_ ?_; (rotate_left 1; (intro w hSw; (try dsimp only at hSw); go_simp); (try with_reducible rfl)); (try simp only [Act.put,Q3,Q4,Q5]))
     (refine QT (i:=9) (v:=?_) ?_ ?_; (rotate_left 1; (intro w hSw; (try dsimp only at hSw); go_simp); (try with_reducible rfl)); (try simp only [Act.put,Q3,Q4,Q5]))
     refine wpAnyH_ready (rs:=[10]) (by kernel_rfl) (by simp) ?_
     refine AllReadyH.cons rfl (fun K hK => ?_) AllReadyH.nil
     obtain ⟨g',e',-,zr2,zr3,zr4⟩:=ownBlk hmd.m.rooms (by omega)
     injection e' with e'
     injection e' with e'
     subst e'
     have q0 : w7.cell? ⟨gA,0,none⟩ = some (encStr rs[0].key):=zr3 0 _ (by
      have:=flat_at encR 2 encR_len rs 0 (by omega) 0 (by decide)
      rw [show (0 : Nat) * 2 + 0 = 0 from rfl] at this
      rw [this]; rfl)
     unfold encStr at q0
     have f0:=zr4 0
     have h8:=hmd.setR (k:=0) (by omega) (.string ⟨x4.toArray⟩) { rs[0] with key:=x4 } rfl rfl
     clear zr3 zr4
     go_simp
     refine hK.out _ _ ((by have:=h8.box.cell 0; simpa using this)) (fun hHeld => ?_)
     clear hK K
     (try simp only [Act.put,Q3,Q4,Q5])
     (refine QT (i:=11) (v:=?_) ?_ ?_; (rotate_left 1; (intro w hSw; (try dsimp only at hSw); go_simp); (try with_reducible rfl)); (try simp only [Act.put,Q3,Q4,Q5]))
     refine wpAnyH_ready (rs:=[12]) (by kernel_rfl) (by simp) ?_
     refine AllReadyH.cons rfl (fun K hK => ?_) AllReadyH.nil
     obtain ⟨m0,m1,m2,m3⟩ : _ ∧ _ ∧ _ ∧ _:=⟨h8.box.cell 0,h8.box.cell 1,h8.box.cell 2,h8.box.cell 3⟩
     simp only [Q0,Q2,Q1] at m0 m1 m2 m3
     have g2:=h8.box.thaw 2
     have zb2:=h8.box.lt
     have h9:=h8.setBox 2 (.string ⟨x7.toArray⟩) x7 gl rfl
     have H9:=Lib.hid h9
     clear h9
     go_simp
     refine hK.out _ _ ((by have:=H9.out.box.cell 0; simpa using this)) (fun hHeld => ?_)
     clear hK K
     (try simp only [Act.put,Q3,Q4,Q5])
     refine wpAnyH_done (by kernel_rfl) ?_ _
     have HB9 : Hid (∀ r' ∈ rs.set 0 { rs[0] with key:=x4 },RoomB r'):=Lib.hid (roomB_set HRB.out ⟨by show x4.length ≤ 100; omega,(HRB.out _ (List.getElem_mem (show 0 < rs.length by omega))).g⟩)
     clear h8 hmd m0 m1 m2 m3
     go_wp2_with fail
     go_meet
     exact ⟨rfl,rfl,_,ca,_,gD,cd,ds,x7,gl,H9.out.more (by omega),HB9.out,HDB.out,by simpa using hr1,by simpa using hr5,hd9,by omega,hgl⟩
   ·go_upto_region 5 with (fail)
    replace hmd:=hmd.drew
    refine wp_region_heldK 13 (fun w' => w'.cell? ⟨mb,3,none⟩ = some (.string ⟨gl.toArray⟩)) (fun _ => True) (by kernel_rfl) (trivial) (hmd.box.cell 3) (fun hT hS => ?_)
    (refine wpAnyK_take2 (i:=0) (v:=?_) (by (simp only [Q0,Q2]; rfl)) (by kernel_rfl) (by kernel_rfl) (by kernel_rfl) (by decide) (by exact fun _ _ _ h => h) (Or.inl ⟨by rfl,?_⟩) (by assumption) (by assumption) ?_; (rotate_left 1; (intro w hSw; (try dsimp only at hSw); go_simp); (try with_reducible rfl)); (try simp only [Act.put,Q3,Q4,Q5]))
    (refine wpAnyK_take2 (i:=1) (v:=?_) (by (simp only [Q0,Q1,Q2]; rfl)) (by kernel_rfl) (by kernel_rfl) (by kernel_rfl) (by decide) (by exact fun _ _ _ h => h) (Or.inl ⟨by rfl,?_⟩) (by assumption) (by assumption) ?_; (rotate_left 1; (intro w hSw; (try dsimp only at hSw); go_simp); (try with_reducible rfl)); (try simp only [Act.put,Q3,Q4,Q5]))
    (refine wpAnyK_take2 (i:=4) (v:=?_) (by (simp only [Q0,Q1,Q2]; rfl)) (by kernel_rfl) (by kernel_rfl) (by kernel_rfl) (by decide) (by exact fun _ _ _ h => h) (Or.inl ⟨by rfl,?_⟩) (by assumption) (by assumption) ?_; (rotate_left 1; (intro w hSw; (try dsimp only at hSw); go_simp); (try with_reducible rfl)); (try simp only [Act.put,Q3,Q4,Q5]))
    (refine wpAnyK_take2 (i:=5) (v:=?_) (by (simp only [Q0,Q1,Q2]; rfl)) (by kernel_rfl) (by kernel_rfl) (by kernel_rfl) (by decide) (by exact fun _ _ _ h => h) (Or.inl ⟨by rfl,?_⟩) (by assumption) (by assumption) ?_; (rotate_left 1; (intro w hSw; (try dsimp only at hSw); go_simp); (try with_reducible rfl)); (try simp only [Act.put,Q3,Q4,Q5]))
    (refine wpAnyK_take1 (i:=6) (v:=?_) (by (simp only [Q0,Q1,Q2]; rfl)) (by kernel_rfl) (by kernel_rfl) (by kernel_rfl) (by decide) (by kernel_rfl) (by kernel_rfl) (by exact fun _ _ _ h => h) (Or.inl ⟨by rfl,?_⟩) (by assumption) (by assumption) ?_; (rotate_left 1; (intro w hSw; (try dsimp only at hSw); go_simp); (try with_reducible rfl)); (try simp only [Act.put,Q3,Q4,Q5]))
    refine wpAnyK_ready (rs:=[2,7]) (by kernel_rfl) (by simp) ?_
    refine AllReadyK.cons rfl (fun K hK => ?_) (AllReadyK.cons rfl (fun K hK => ?_) AllReadyK.nil)
    case refine_1 =>
     go_simp
     have hL2 : Blk (w5.drew.alloc (.cells #[.string ⟨#[99,108,105,112]⟩,.string ⟨#[65]⟩] 9)) (w5.heap.size) 9 #[.string ⟨#[99,108,105,112]⟩,.string ⟨#[65]⟩]:=Blk.at_ _ (by simp)
     replace hmd:=hmd.alloc (.cells #[.string ⟨#[99,108,105,112]⟩,.string ⟨#[65]⟩] 9)
     refine hK.out _ _ (trivial) (hmd.box.cell 3) (fun hT hS => ?_)
     clear hK K
     (try simp only [Act.put,Q3,Q4,Q5])
     refine wpAnyK_ready (rs:=[3,7]) (by kernel_rfl) (by simp) ?_
     refine AllReadyK.cons rfl (fun K hK => ?_) (AllReadyK.cons rfl (fun K hK => ?_) AllReadyK.nil)
     case refine_1 =>
      go_simp
      go_at_call 9
      refine (some_lit g _ _ 100 #[.string ⟨#[99,108,105,112]⟩,.string ⟨#[65]⟩] [[99,108,105,112],[65]] _ hmd.s (by omega) hL2 rfl (by omega) (by simp) (by simp) (by intro s hs; simp at hs; rcases hs with rfl | rfl <;> first | omega | simp)).mono ?_
      rintro e w6 ⟨x3,rfl,hx3,hs,hg⟩
      replace hmd:=hmd.str hs hg
      have hgw6 : g < w6.heap.size:=hmd.s.lt
      clear hs hg hL2
      go_wp2_with fail
      refine hK.out _ _ (trivial) (hmd.box.cell 3) (fun hT hS => ?_)
      clear hK K
      (try simp only [Act.put,Q3,Q4,Q5])
      refine wpAnyK_ready (rs:=[7]) (by kernel_rfl) (by simp) ?_
      refine AllReadyK.cons rfl (fun K hK => ?_) AllReadyK.nil
      go_simp
      have hL7 : Blk (w6.alloc (.cells #[.string ⟨gl.toArray⟩,.string ⟨#[122,122]⟩] 9)) (w6.heap.size) 9 #[.string ⟨gl.toArray⟩,.string ⟨#[122,122]⟩]:=Blk.at_ _ (by simp)
      replace hmd:=hmd.alloc (.cells #[.string ⟨gl.toArray⟩,.string ⟨#[122,122]⟩] 9)
      refine hK.out _ _ (trivial) (hmd.box.cell 3) (fun hT hS => ?_)
      clear hK K
      (try simp only [Act.put,Q3,Q4,Q5])
      refine wpAnyK_ready (rs:=[8]) (by kernel_rfl) (by simp) ?_
      refine AllReadyK.cons rfl (fun K hK => ?_) AllReadyK.nil
      go_simp
      go_at_call 9
      refine (some_lit g _ _ 100 #[.string ⟨gl.toArray⟩,.string ⟨#[122,122]⟩] [gl,[122,122]] _ hmd.s (by omega) hL7 rfl (by omega) (by simp) (by simp) (by intro s hs; simp at hs; rcases hs with rfl | rfl <;> first | omega | simp)).mono ?_
      rintro e w7 ⟨x8,rfl,hx8,hs,hg⟩
      replace hmd:=hmd.str hs hg
      have hgw7 : g < w7.heap.size:=hmd.s.lt
      clear hs hg hL7
      go_wp2_with fail
      refine hK.out _ _ (trivial) (hmd.box.cell 3) (fun hT hS => ?_)
      clear hK K
      (try simp only [Act.put,Q3,Q4,Q5])
      (refine wpAnyK_take2 (i:=9) (v:=?_) (by (simp only [Q0,Q1,Q2]; rfl)) (by kernel_rfl) (by kernel_rfl) (by kernel_rfl) (by decide) (by exact fun _ _ _ h => h) (Or.inl ⟨by rfl,?_⟩) (by assumption) (by assumption) ?_; (rotate_left 1; (intro w hSw; (try dsimp only at hSw); go_simp); (try with_reducible rfl)); (try simp only [Act.put,Q3,Q4,Q5]))
      (refine wpAnyK_take2 (i:=10) (v:=?_) (by (simp only [Q0,Q1,Q2]; rfl)) (by kernel_rfl) (by kernel_rfl) (by kernel_rfl) (by decide) (by exact fun _ _ _ h => h) (Or.inl ⟨by rfl,?_⟩) (by assumption) (by assumption) ?_; (rotate_left 1; (intro w hSw; (try dsimp only at hSw); go_simp); (try with_reducible rfl)); (try simp only [Act.put,Q3,Q4,Q5]))
      refine wpAnyK_ready (rs:=[11]) (by kernel_rfl) (by simp) ?_
      refine AllReadyK.cons rfl (fun K hK => ?_) AllReadyK.nil
      obtain ⟨q0,q1,q2,q3,q4,q5,q6⟩:=hmd.dc hdk
      obtain ⟨zd0,zd1,zd2⟩:=hmd.m.doorFree hmd.hd
      have f1:=zd2 (k * 7 + 6)
      obtain ⟨h8,-⟩:=hmd.setDd hdk (i:=6) (by decide) (.string ⟨x3.toArray⟩) { d with trick:=x3 } rfl rfl rfl
      clear zd2
      go_simp
      refine hK.out _ _ (trivial) (h8.box.cell 3) (fun hT hS => ?_)
      clear hK K
      (try simp only [Act.put,Q3,Q4,Q5])
      (refine wpAnyK_take2 (i:=12) (v:=?_) (by (simp only [Q0,Q1,Q2]; rfl)) (by kernel_rfl) (by kernel_rfl) (by kernel_rfl) (by decide) (by exact fun _ _ _ h => h) (Or.inl ⟨by rfl,?_⟩) (by assumption) (by assumption) ?_; (rotate_left 1; (intro w hSw; (try dsimp only at hSw); go_simp); (try with_reducible rfl)); (try simp only [Act.put,Q3,Q4,Q5]))
      refine wpAnyK_ready (rs:=[13]) (by kernel_rfl) (by simp) ?_
      refine AllReadyK.consT (by kernel_rfl) rfl (fun K hK => ?_) AllReadyK.nil
      obtain ⟨m0,m1,m2,m3⟩ : _ ∧ _ ∧ _ ∧ _:=⟨h8.box.cell 0,h8.box.cell 1,h8.box.cell 2,h8.box.cell 3⟩
      simp only [Q0,Q2,Q1] at m0 m1 m2 m3
      have g3:=h8.box.thaw 3
      have zb2:=h8.box.lt
      have h9:=h8.setBox 3 (.string ⟨x8.toArray⟩) st x8 rfl
      have H9:=Lib.hid h9
      clear h9
      go_simp
      refine hK.out _ _ (trivial) (fun hT => ?_)
      clear hK K
      (try simp only [Act.put,Q3,Q4,Q5])
      refine wpAnyK_done (by kernel_rfl) ?_ _
      have HB9 : Hid (∀ d' ∈ ds.set k { d with trick:=x3 },DoorB d'):=Lib.hid (doorB_set HDB.out ⟨⟨hDd.k.1,hDd.k.2.1,hDd.k.2.2.1,by show x3.length ≤ 100; omega⟩,hDd.t,hDd.n,hDd.x⟩)
      clear h8 hmd m0 m1 m2 m3 q0 q1 q2 q3 q4 q5 q6
      go_wp2_with fail
      go_meet
      exact ⟨rfl,rfl,A,ca,rs,gD,cd,_,st,x8,H9.out.more (by omega),HRB.out,HB9.out,hr1,hr5,by simpa using hd9,hst,by omega⟩
     case refine_2 =>
      go_simp
      have hL7 : Blk ((w5.drew.alloc (.cells #[.string ⟨#[99,108,105,112]⟩,.string ⟨#[65]⟩] 9)).alloc (.cells #[.string ⟨gl.toArray⟩,.string ⟨#[122,122]⟩] 9)) (w5.heap.size + 1) 9 #[.string ⟨gl.toArray⟩,.string ⟨#[122,122]⟩]:=Blk.at_ _ (by simp)
      replace hmd:=hmd.alloc (.cells #[.string ⟨gl.toArray⟩,.string ⟨#[122,122]⟩] 9)
      replace hL2:=hL2.alloc (.cells #[.string ⟨gl.toArray⟩,.string ⟨#[122,122]⟩] 9)
      refine hK.out _ _ (trivial) (hmd.box.cell 3) (fun hT hS => ?_)
      clear hK K
      (try simp only [Act.put,Q3,Q4,Q5])
      refine wpAnyK_ready (rs:=[3]) (by kernel_rfl) (by simp) ?_
      refine AllReadyK.cons rfl (fun K hK => ?_) AllReadyK.nil
      go_simp
      go_at_call 9
      refine (some_lit g _ _ 100 #[.string ⟨#[99,108,105,112]⟩,.string ⟨#[65]⟩] [[99,108,105,112],[65]] _ hmd.s (by omega) hL2 rfl (by omega) (by simp) (by simp) (by intro s hs; simp at hs; rcases hs with rfl | rfl <;> first | omega | simp)).mono ?_
      rintro e w6 ⟨x3,rfl,hx3,hs,hg⟩
      replace hmd:=hmd.str hs hg
      have hgw6 : g < w6.heap.size:=hmd.s.lt
      replace hL7:=hL7.grown hg (by omega)
      clear hs hg hL2
      go_wp2_with fail
      refine hK.out _ _ (trivial) (hmd.box.cell 3) (fun hT hS => ?_)
      clear hK K
      (try simp only [Act.put,Q3,Q4,Q5])
      refine wpAnyK_ready (rs:=[8]) (by kernel_rfl) (by simp) ?_
      refine AllReadyK.cons rfl (fun K hK => ?_) AllReadyK.nil
      go_simp
      go_at_call 9
      refine (some_lit g _ _ 100 #[.string ⟨gl.toArray⟩,.string ⟨#[122,122]⟩] [gl,[122,122]] _ hmd.s (by omega) hL7 rfl (by omega) (by simp) (by simp) (by intro s hs; simp at hs; rcases hs with rfl | rfl <;> first | omega | simp)).mono ?_
      rintro e w7 ⟨x8,rfl,hx8,hs,hg⟩
      replace hmd:=hmd.str hs hg
      have hgw7 : g < w7.heap.size:=hmd.s.lt
      clear hs hg hL7
      go_wp2_with fail
      refine hK.out _ _ (trivial) (hmd.box.cell 3) (fun hT hS => ?_)
      clear hK K
      (try simp only [Act.put,Q3,Q4,Q5])
      (refine wpAnyK_take2 (i:=9) (v:=?_) (by (simp only [Q0,Q1,Q2]; rfl)) (by kernel_rfl) (by kernel_rfl) (by kernel_rfl) (by decide) (by exact fun _ _ _ h => h) (Or.inl ⟨by rfl,?_⟩) (by assumption) (by assumption) ?_; (rotate_left 1; (intro w hSw; (try dsimp only at hSw); go_simp); (try with_reducible rfl)); (try simp only [Act.put,Q3,Q4,Q5]))
      (refine wpAnyK_take2 (i:=10) (v:=?_) (by (simp only [Q0,Q1,Q2]; rfl)) (by kernel_rfl) (by kernel_rfl) (by kernel_rfl) (by decide) (by exact fun _ _ _ h => h) (Or.inl ⟨by rfl,?_⟩) (by assumption) (by assumption) ?_; (rotate_left 1; (intro w hSw; (try dsimp only at hSw); go_simp); (try with_reducible rfl)); (try simp only [Act.put,Q3,Q4,Q5]))
      refine wpAnyK_ready (rs:=[11]) (by kernel_rfl) (by simp) ?_
      refine AllReadyK.cons rfl (fun K hK => ?_) AllReadyK.nil
      obtain ⟨q0,q1,q2,q3,q4,q5,q6⟩:=hmd.dc hdk
      obtain ⟨zd0,zd1,zd2⟩:=hmd.m.doorFree hmd.hd
      have f1:=zd2 (k * 7 + 6)
      obtain ⟨h8,-⟩:=hmd.setDd hdk (i:=6) (by decide) (.string ⟨x3.toArray⟩) { d with trick:=x3 } rfl rfl rfl
      clear zd2
      go_simp
      refine hK.out _ _ (trivial) (h8.box.cell 3) (fun hT hS => ?_)
      clear hK K
      (try simp only [Act.put,Q3,Q4,Q5])
      (refine wpAnyK_take2 (i:=12) (v:=?_) (by (simp only [Q0,Q1,Q2]; rfl)) (by kernel_rfl) (by kernel_rfl) (by kernel_rfl) (by decide) (by exact fun _ _ _ h => h) (Or.inl ⟨by rfl,?_⟩) (by assumption) (by assumption) ?_; (rotate_left 1; (intro w hSw; (try dsimp only at hSw); go_simp); (try with_reducible rfl)); (try simp only [Act.put,Q3,Q4,Q5]))
      refine wpAnyK_ready (rs:=[13]) (by kernel_rfl) (by simp) ?_
      refine AllReadyK.consT (by kernel_rfl) rfl (fun K hK => ?_) AllReadyK.nil
      obtain ⟨m0,m1,m2,m3⟩ : _ ∧ _ ∧ _ ∧ _:=⟨h8.box.cell 0,h8.box.cell 1,h8.box.cell 2,h8.box.cell 3⟩
      simp only [Q0,Q2,Q1] at m0 m1 m2 m3
      have g3:=h8.box.thaw 3
      have zb2:=h8.box.lt
      have h9:=h8.setBox 3 (.string ⟨x8.toArray⟩) st x8 rfl
      have H9:=Lib.hid h9
      clear h9
      go_simp
      refine hK.out _ _ (trivial) (fun hT => ?_)
      clear hK K
      (try simp only [Act.put,Q3,Q4,Q5])
      refine wpAnyK_done (by kernel_rfl) ?_ _
      have HB9 : Hid (∀ d' ∈ ds.set k { d with trick:=x3 },DoorB d'):=Lib.hid (doorB_set HDB.out ⟨⟨hDd.k.1,hDd.k.2.1,hDd.k.2.2.1,by show x3.length ≤ 100; omega⟩,hDd.t,hDd.n,hDd.x⟩)
      clear h8 hmd m0 m1 m2 m3 q0 q1 q2 q3 q4 q5 q6
      go_wp2_with fail
      go_meet
      exact ⟨rfl,rfl,A,ca,rs,gD,cd,_,st,x8,H9.out.more (by omega),HRB.out,HB9.out,hr1,hr5,by simpa using hd9,hst,by omega⟩
    case refine_2 =>
     go_simp
     have hL7 : Blk (w5.drew.alloc (.cells #[.string ⟨gl.toArray⟩,.string ⟨#[122,122]⟩] 9)) (w5.heap.size) 9 #[.string ⟨gl.toArray⟩,.string ⟨#[122,122]⟩]:=Blk.at_ _ (by simp)
     replace hmd:=hmd.alloc (.cells #[.string ⟨gl.toArray⟩,.string ⟨#[122,122]⟩] 9)
     refine hK.out _ _ (trivial) (hmd.box.cell 3) (fun hT hS => ?_)
     clear hK K
     (try simp only [Act.put,Q3,Q4,Q5])
     refine wpAnyK_ready (rs:=[2]) (by kernel_rfl) (by simp) ?_
     refine AllReadyK.cons rfl (fun K hK => ?_) AllReadyK.nil
     go_simp
     have hL2 : Blk ((w5.drew.alloc (.cells #[.string ⟨gl.toArray⟩,.string ⟨#[122,122]⟩] 9)).alloc (.cells #[.string ⟨#[99,108,105,112]⟩,.string ⟨#[65]⟩] 9)) (w5.heap.size + 1) 9 #[.string ⟨#[99,108,105,112]⟩,.string ⟨#[65]⟩]:=Blk.at_ _ (by simp)
     replace hmd:=hmd.alloc (.cells #[.string ⟨#[99,108,105,112]⟩,.string ⟨#[65]⟩] 9)
     replace hL7:=hL7.alloc (.cells #[.string ⟨#[99,108,105,112]⟩,.string ⟨#[65]⟩] 9)
     refine hK.out _ _ (trivial) (hmd.box.cell 3) (fun hT hS => ?_)
     clear hK K
     (try simp only [Act.put,Q3,Q4,Q5])
     refine wpAnyK_ready (rs:=[3]) (by kernel_rfl) (by simp) ?_
     refine AllReadyK.cons rfl (fun K hK => ?_) AllReadyK.nil
     go_simp
     go_at_call 9
     refine (some_lit g _ _ 100 #[.string ⟨#[99,108,105,112]⟩,.string ⟨#[65]⟩] [[99,108,105,112],[65]] _ hmd.s (by omega) hL2 rfl (by omega) (by simp) (by simp) (by intro s hs; simp at hs; rcases hs with rfl | rfl <;> first | omega | simp)).mono ?_
     rintro e w6 ⟨x3,rfl,hx3,hs,hg⟩
     replace hmd:=hmd.str hs hg
     have hgw6 : g < w6.heap.size:=hmd.s.lt
     replace hL7:=hL7.grown hg (by omega)
     clear hs hg hL2
     go_wp2_with fail
     refine hK.out _ _ (trivial) (hmd.box.cell 3) (fun hT hS => ?_)
     clear hK K
     (try simp only [Act.put,Q3,Q4,Q5])
     refine wpAnyK_ready (rs:=[8]) (by kernel_rfl) (by simp) ?_
     refine AllReadyK.cons rfl (fun K hK => ?_) AllReadyK.nil
     go_simp
     go_at_call 9
     refine (some_lit g _ _ 100 #[.string ⟨gl.toArray⟩,.string ⟨#[122,122]⟩] [gl,[122,122]] _ hmd.s (by omega) hL7 rfl (by omega) (by simp) (by simp) (by intro s hs; simp at hs; rcases hs with rfl | rfl <;> first | omega | simp)).mono ?_
     rintro e w7 ⟨x8,rfl,hx8,hs,hg⟩
     replace hmd:=hmd.str hs hg
     have hgw7 : g < w7.heap.size:=hmd.s.lt
     clear hs hg hL7
     go_wp2_with fail
     refine hK.out _ _ (trivial) (hmd.box.cell 3) (fun hT hS => ?_)
     clear hK K
     (try simp only [Act.put,Q3,Q4,Q5])
     (refine wpAnyK_take2 (i:=9) (v:=?_) (by (simp only [Q0,Q1,Q2]; rfl)) (by kernel_rfl) (by kernel_rfl) (by kernel_rfl) (by decide) (by exact fun _ _ _ h => h) (Or.inl ⟨by rfl,?_⟩) (by assumption) (by assumption) ?_; (rotate_left 1; (intro w hSw; (try dsimp only at hSw); go_simp); (try with_reducible rfl)); (try simp only [Act.put,Q3,Q4,Q5]))
     (refine wpAnyK_take2 (i:=10) (v:=?_) (by (simp only [Q0,Q1,Q2]; rfl)) (by kernel_rfl) (by kernel_rfl) (by kernel_rfl) (by decide) (by exact fun _ _ _ h => h) (Or.inl ⟨by rfl,?_⟩) (by assumption) (by assumption) ?_; (rotate_left 1; (intro w hSw; (try dsimp only at hSw); go_simp); (try with_reducible rfl)); (try simp only [Act.put,Q3,Q4,Q5]))
     refine wpAnyK_ready (rs:=[11]) (by kernel_rfl) (by simp) ?_
     refine AllReadyK.cons rfl (fun K hK => ?_) AllReadyK.nil
     obtain ⟨q0,q1,q2,q3,q4,q5,q6⟩:=hmd.dc hdk
     obtain ⟨zd0,zd1,zd2⟩:=hmd.m.doorFree hmd.hd
     have f1:=zd2 (k * 7 + 6)
     obtain ⟨h8,-⟩:=hmd.setDd hdk (i:=6) (by decide) (.string ⟨x3.toArray⟩) { d with trick:=x3 } rfl rfl rfl
     clear zd2
     go_simp
     refine hK.out _ _ (trivial) (h8.box.cell 3) (fun hT hS => ?_)
     clear hK K
     (try simp only [Act.put,Q3,Q4,Q5])
     (refine wpAnyK_take2 (i:=12) (v:=?_) (by (simp only [Q0,Q1,Q2]; rfl)) (by kernel_rfl) (by kernel_rfl) (by kernel_rfl) (by decide) (by exact fun _ _ _ h => h) (Or.inl ⟨by rfl,?_⟩) (by assumption) (by assumption) ?_; (rotate_left 1; (intro w hSw; (try dsimp only at hSw); go_simp); (try with_reducible rfl)); (try simp only [Act.put,Q3,Q4,Q5]))
     refine wpAnyK_ready (rs:=[13]) (by kernel_rfl) (by simp) ?_
     refine AllReadyK.consT (by kernel_rfl) rfl (fun K hK => ?_) AllReadyK.nil
     obtain ⟨m0,m1,m2,m3⟩ : _ ∧ _ ∧ _ ∧ _:=⟨h8.box.cell 0,h8.box.cell 1,h8.box.cell 2,h8.box.cell 3⟩
     simp only [Q0,Q2,Q1] at m0 m1 m2 m3
     have g3:=h8.box.thaw 3
     have zb2:=h8.box.lt
     have h9:=h8.setBox 3 (.string ⟨x8.toArray⟩) st x8 rfl
     have H9:=Lib.hid h9
     clear h9
     go_simp
     refine hK.out _ _ (trivial) (fun hT => ?_)
     clear hK K
     (try simp only [Act.put,Q3,Q4,Q5])
     refine wpAnyK_done (by kernel_rfl) ?_ _
     have HB9 : Hid (∀ d' ∈ ds.set k { d with trick:=x3 },DoorB d'):=Lib.hid (doorB_set HDB.out ⟨⟨hDd.k.1,hDd.k.2.1,hDd.k.2.2.1,by show x3.length ≤ 100; omega⟩,hDd.t,hDd.n,hDd.x⟩)
     clear h8 hmd m0 m1 m2 m3 q0 q1 q2 q3 q4 q5 q6
     go_wp2_with fail
     go_meet
     exact ⟨rfl,rfl,A,ca,rs,gD,cd,_,st,x8,H9.out.more (by omega),HRB.out,HB9.out,hr1,hr5,by simpa using hd9,hst,by omega⟩
 case rest =>
 obtain ⟨rfl,rfl,A,ca,rs,gD,cd,ds,st,gl,hmf,hRB,hDB,hr1,hr5,hd9,hst,hgl⟩:=hcut
 obtain ⟨m0,m1,m2,m3⟩ : _ ∧ _ ∧ _ ∧ _:=⟨hmf.box.cell 0,hmf.box.cell 1,hmf.box.cell 2,hmf.box.cell 3⟩
 simp only [Q0,Q2,Q1] at m0 m1 m2 m3
 obtain ⟨r0,r1,r2,r3⟩ : _ ∧ _ ∧ _ ∧ _:=⟨hmf.res.cell 0,hmf.res.cell 1,hmf.res.cell 2,hmf.res.cell 3⟩
 simp only [Q0,Q2,Q1] at r0 r1 r2 r3
 have f0:=hmf.res.thaw 0
 have f1:=hmf.res.thaw 1
 have f2:=hmf.res.thaw 2
 have f3:=hmf.res.thaw 3
 have zr:=hmf.res.lt
 have zm:=hmf.hm
 have zd:=hmf.hd
 have hz:=(((hmf.res.poke 0 (.slice A rs.length ca)).poke 1 (.slice (some ⟨gD,0,none⟩) ds.length cd)).poke 2 (.string ⟨st.toArray⟩)).poke 3 (.string ⟨gl.toArray⟩)
 have HMF:=Lib.hid (((((hmf.m.setOff (p:=⟨w.heap.size,0,none⟩) (by simp) (.slice A rs.length ca)).setOff (p:=⟨w.heap.size,1,none⟩) (by simp) (.slice (some ⟨gD,0,none⟩) ds.length cd)).setOff (p:=⟨w.heap.size,2,none⟩) (by simp) (.string ⟨st.toArray⟩)).setOff (p:=⟨w.heap.size,3,none⟩) (by simp) (.string ⟨gl.toArray⟩)).weak (show w.heap.size ≤ w.heap.size + 1 by omega))
 have HSF:=Lib.hid (((((hmf.s.set (p:=⟨w.heap.size,0,none⟩) hlt (.slice A rs.length ca)).set (p:=⟨w.heap.size,1,none⟩) hlt (.slice (some ⟨gD,0,none⟩) ds.length cd)).set (p:=⟨w.heap.size,2,none⟩) hlt (.string ⟨st.toArray⟩)).set (p:=⟨w.heap.size,3,none⟩) hlt (.string ⟨gl.toArray⟩)).more (show _ ≤ N + 300 by omega))
 have HGF:=Lib.hid (grown_set_new (grown_set_new (grown_set_new (grown_set_new hmf.gr (p:=⟨w.heap.size,0,none⟩) (Nat.le_refl _) (.slice A rs.length ca)) (p:=⟨w.heap.size,1,none⟩) (Nat.le_refl _) (.slice (some ⟨gD,0,none⟩) ds.length cd)) (p:=⟨w.heap.size,2,none⟩) (Nat.le_refl _) (.string ⟨st.toArray⟩)) (p:=⟨w.heap.size,3,none⟩) (Nat.le_refl _) (.string ⟨gl.toArray⟩))
 have HRB2:=Lib.hid hRB
 have HDB2:=Lib.hid hDB
 clear hmf hRB hDB
 go_wp2_with fail
 refine bodyPost_ret (res_map _ 2 _ _ w.heap.size _ _ st gl A (some ⟨gD,0,none⟩) rs.length ca ds.length cd rfl rfl (by kernel_rfl) rfl (hz.cell 0) (hz.cell 1) (hz.cell 2) (hz.cell 3)) rfl ?_
 exact ⟨A,ca,rs,some ⟨gD,0,none⟩,cd,ds,st,gl,rfl,HMF.out,HRB2.out,HDB2.out,hr1,hr5,zd,hd9,hst,hgl,HSF.out,HGF.out⟩
end Go.Proofs.YtjggbpchmbdocaaGreatDoor
