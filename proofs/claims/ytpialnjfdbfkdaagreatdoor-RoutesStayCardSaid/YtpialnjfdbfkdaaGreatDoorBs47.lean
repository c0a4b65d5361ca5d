/- Texts of this seat, laid together: MpC Nv. -/
import Derived.Handy
import Derived.Test.YtpialnjfdbfkdaaGreatDoorBs24
import Derived.Test.YtpialnjfdbfkdaaGreatDoorBs42
import Derived.Test.YtpialnjfdbfkdaaGreatDoorBs07
/- The walk of the stream's MapOf. -/
set_option linter.unusedVariables false
set_option linter.unusedSimpArgs false
namespace Go.Proofs.YtpialnjfdbfkdaaGreatDoor
open Go.RowKit Go.Sort

section
variable {w w' : World} {base g ca cd gD gA : Nat} {A D : Option Addr} {rs : List RoomE} {ds : List DoorE}
theorem MapO.doorCells (h : MapO w base A ca rs (some ⟨gD,0,none⟩) cd ds) {k : Nat} (hk : k < ds.length) : w.cell? ⟨gD,k * 7,none⟩ = some (encStr ds[k].key) ∧ w.cell? ⟨gD,k * 7 + 1,none⟩ = some (encStr ds[k].src) ∧ w.cell? ⟨gD,k * 7 + 2,none⟩ = some (encStr ds[k].dst) ∧ w.cell? ⟨gD,k * 7 + 3,none⟩ = some (.int .i64 ds[k].time) ∧ w.cell? ⟨gD,k * 7 + 4,none⟩ = some (.slice ds[k].N ds[k].needs.length ds[k].nc) ∧ w.cell? ⟨gD,k * 7 + 5,none⟩ = some (.slice ds[k].T ds[k].takes.length ds[k].tc) ∧ w.cell? ⟨gD,k * 7 + 6,none⟩ = some (encStr ds[k].trick):=by
 obtain ⟨g,e,_,_,hc,_⟩:=ownBlk h.doors (by omega)
 injection e with e; injection e with e; subst e
 have g : ∀ j (hj : j < 7) u,(encD ds[k])[j]? = some u → w.cell? ⟨gD,k * 7 + j,none⟩ = some u:=fun j hj u hu => hc _ u (by rw [flat_at encD 7 encD_len ds k hk j hj,hu])
 exact ⟨g 0 (by omega) _ rfl,g 1 (by omega) _ rfl,g 2 (by omega) _ rfl,g 3 (by omega) _ rfl,g 4 (by omega) _ rfl,g 5 (by omega) _ rfl,g 6 (by omega) _ rfl⟩
end
structure MfC (w W : World) (g N mb : Nat) (A : Option Addr) (ca : Nat) (rs : List RoomE) (gD cd : Nat) (ds : List DoorE) (st gl : List UInt8) : Prop where
  s : Str W g N
  gr : w.grownBy W (some g)
  res : Blk W w.heap.size 29 #[.slice none 0 0, .slice none 0 0, .string ⟨#[]⟩, .string ⟨#[]⟩]
  box : Blk W mb 29 #[.slice A rs.length ca, .slice (some ⟨gD, 0, none⟩) ds.length cd, .string ⟨st.toArray⟩, .string ⟨gl.toArray⟩]
  m : MapO W (w.heap.size + 1) A ca rs (some ⟨gD, 0, none⟩) cd ds
  hm : w.heap.size < mb
  hg : g < w.heap.size
  hd : 0 < ds.length
section
variable {w W W' : World} {g N N' mb ca cd gD gA : Nat} {A : Option Addr} {rs : List RoomE} {ds : List DoorE} {st gl : List UInt8}
theorem MfC.below (h : MfC w W g N mb A ca rs gD cd ds st gl) (hb : Below W.heap.size W W') : MfC w W' g N mb A ca rs gD cd ds st gl:=⟨h.s.keep hb,grown_trans' h.gr (grown_of_below hb _),h.res.below hb,h.box.below hb,h.m.below hb,h.hm,h.hg,h.hd⟩
theorem MfC.alloc (h : MfC w W g N mb A ca rs gD cd ds st gl) (o : Obj) : MfC w (W.alloc o) g N mb A ca rs gD cd ds st gl:=h.below ((Below.refl _ _).alloc (Nat.le_refl _) o)
theorem MfC.drew (h : MfC w W g N mb A ca rs gD cd ds st gl) : MfC w W.drew g N mb A ca rs gD cd ds st gl:=h.below (below_drewN' (Below.refl _ _) 1)
theorem MfC.str (h : MfC w W g N mb A ca rs gD cd ds st gl) (hs : Str W' g N') (hb : W.grownBy W' (some g)) : MfC w W' g N' mb A ca rs gD cd ds st gl :=
 ⟨hs,grown_trans' h.gr hb,h.res.grown hb (by have:=h.hg; omega),h.box.grown hb (by have:=h.hg; have:=h.hm; omega),h.m.grown hb (by have:=h.hg; omega),h.hm,h.hg,h.hd⟩
theorem MfC.more (h : MfC w W g N mb A ca rs gD cd ds st gl) (hN : N ≤ N') : MfC w W g N' mb A ca rs gD cd ds st gl:=⟨h.s.more hN,h.gr,h.res,h.box,h.m,h.hm,h.hg,h.hd⟩
end
section
variable {w W : World} {g N mb ca cd gD : Nat} {A : Option Addr} {rs : List RoomE} {ds : List DoorE} {st gl : List UInt8}
theorem MfC.dc (h : MfC w W g N mb A ca rs gD cd ds st gl) {k : Nat} {d : DoorE} (hd : ds[k]? = some d) : W.cell? ⟨gD,k * 7,none⟩ = some (.string ⟨d.key.toArray⟩) ∧ W.cell? ⟨gD,k * 7 + 1,none⟩ = some (.string ⟨d.src.toArray⟩) ∧ W.cell? ⟨gD,k * 7 + 2,none⟩ = some (.string ⟨d.dst.toArray⟩) ∧ W.cell? ⟨gD,k * 7 + 3,none⟩ = some (.int .i64 d.time) ∧ W.cell? ⟨gD,k * 7 + 4,none⟩ = some (.slice d.N d.needs.length d.nc) ∧ W.cell? ⟨gD,k * 7 + 5,none⟩ = some (.slice d.T d.takes.length d.tc) ∧ W.cell? ⟨gD,k * 7 + 6,none⟩ = some (.string ⟨d.trick.toArray⟩):=by
 obtain ⟨hk,rfl⟩:=List.getElem?_eq_some_iff.1 hd
 exact h.m.doorCells hk
end
end Go.Proofs.YtpialnjfdbfkdaaGreatDoor
/- The walk of splitref1.SameMap at maps that are the same. -/
namespace Go.Proofs.YtpialnjfdbfkdaaGreatDoor
open Go.RowKit Go.Sort

set_option maxHeartbeats 2000000 in
set_option maxRecDepth 100000 in
theorem sameR_yes (B B' : Option Addr) (c c' lo lo' : Nat) (key : List UInt8) (g : List (List UInt8)) (w : World) (hr : Row w lo 1 B g.length (strs g)) (hr' : Row w lo' 1 B' g.length (strs g)) (hl : g.length ≤ 1000000000) :
  Calls Tryz.prog 63 #[.agg #[.string ⟨key.toArray⟩,.slice B g.length c],.agg #[.string ⟨key.toArray⟩,.slice B' g.length c']] w fun e w' => e = .returned (.bool true) ∧ Below w.heap.size w w':=by
 have e1 : (key == key) = true:=by simp
 go_enter Tryz.func63,Tryz.ntmps63
 go_wp2_with fail
 refine (equalS_any B B' c c' lo lo' g g _ ((hr.alloc _).alloc _) ((hr'.alloc _).alloc _) hl hl).mono ?_
 rintro e w1 ⟨rfl,q,rfl⟩
 rw [decide_eq_true rfl]
 go_wp2_with fail
 go_ret
 exact ⟨rfl,(by repeat (first | exact Below.refl _ _ | refine Below.alloc ?_ (by first | omega | (simp; omega) | simp) _ | refine below_drewN' ?_ _ | refine Below.drew ?_))⟩
set_option maxHeartbeats 4000000 in
set_option maxRecDepth 100000 in
theorem sameD_yes (N N' T T' : Option Addr) (c c' d d' lo lo' : Nat) (key src dst trk : List UInt8) (tm : Int) (g h : List (List UInt8)) (w : World) (hn : Row w lo 1 N g.length (strs g)) (hn' : Row w lo' 1 N' g.length (strs g)) (ht : Row w lo 1 T h.length (strs h)) (ht' : Row w lo' 1 T' h.length (strs h)) (hl : g.length ≤ 1000000000) (hm : h.length ≤ 1000000000) :
  Calls Tryz.prog 65 #[.agg #[.string ⟨key.toArray⟩,.string ⟨src.toArray⟩,.string ⟨dst.toArray⟩,.int .i64 tm,.slice N g.length c,.slice T h.length d,.string ⟨trk.toArray⟩],.agg #[.string ⟨key.toArray⟩,.string ⟨src.toArray⟩,.string ⟨dst.toArray⟩,.int .i64 tm,.slice N' g.length c',.slice T' h.length d',.string ⟨trk.toArray⟩]] w fun e w' => e = .returned (.bool true) ∧ Below w.heap.size w w':=by
 have e1 : (key == key) = true:=by simp
 have e2 : (src == src) = true:=by simp
 have e3 : (dst == dst) = true:=by simp
 have e4 : (trk == trk) = true:=by simp
 have e5 : (tm == tm) = true:=by simp
 go_enter Tryz.func65,Tryz.ntmps65
 go_wp2_with fail
 refine (equalS_any N N' c c' lo lo' g g _ ((hn.alloc _).alloc _) ((hn'.alloc _).alloc _) hl hl).mono ?_
 rintro e w1 ⟨rfl,q,rfl⟩
 rw [decide_eq_true rfl]
 go_wp2_with fail
 refine (equalS_any T T' d d' lo lo' h h _ (((ht.alloc _).alloc _).below (below_drewN' (Below.refl _ _) q)) (((ht'.alloc _).alloc _).below (below_drewN' (Below.refl _ _) q)) hm hm).mono ?_
 rintro e w1 ⟨rfl,q2,rfl⟩
 rw [decide_eq_true rfl]
 go_wp2_with fail
 go_ret
 exact ⟨rfl,(by repeat (first | exact Below.refl _ _ | refine Below.alloc ?_ (by first | omega | (simp; omega) | simp) _ | refine below_drewN' ?_ _ | refine Below.drew ?_))⟩
theorem er_at {rs rs' : List RoomE} (he : rs.map RoomE.er = rs'.map RoomE.er) (k : Nat) (hk : k < rs.length) (hk' : k < rs'.length) : rs[k].key = rs'[k].key ∧ rs[k].gives = rs'[k].gives:=by
 have h1 : (rs.map RoomE.er)[k]? = (rs'.map RoomE.er)[k]?:=by rw [he]
 rw [List.getElem?_map,List.getElem?_map,List.getElem?_eq_getElem hk,List.getElem?_eq_getElem hk'] at h1
 simp only [Option.map_some,Option.some.injEq] at h1
 have a:=congrArg RoomE.key h1
 have b:=congrArg RoomE.gives h1
 exact ⟨a,b⟩
theorem erD_at {ds ds' : List DoorE} (he : ds.map DoorE.er = ds'.map DoorE.er) (k : Nat) (hk : k < ds.length) (hk' : k < ds'.length) : ds[k].key = ds'[k].key ∧ ds[k].src = ds'[k].src ∧ ds[k].dst = ds'[k].dst ∧ ds[k].time = ds'[k].time ∧ ds[k].needs = ds'[k].needs ∧ ds[k].takes = ds'[k].takes ∧ ds[k].trick = ds'[k].trick:=by
 have h1 : (ds.map DoorE.er)[k]? = (ds'.map DoorE.er)[k]?:=by rw [he]
 rw [List.getElem?_map,List.getElem?_map,List.getElem?_eq_getElem hk,List.getElem?_eq_getElem hk'] at h1
 simp only [Option.map_some,Option.some.injEq] at h1
 have a1:=congrArg DoorE.key h1
 have a2:=congrArg DoorE.src h1
 have a3:=congrArg DoorE.dst h1
 have a4:=congrArg DoorE.time h1
 have a5:=congrArg DoorE.needs h1
 have a6:=congrArg DoorE.takes h1
 have a7:=congrArg DoorE.trick h1
 exact ⟨a1,a2,a3,a4,a5,a6,a7⟩
set_option maxHeartbeats 2000000 in
set_option maxRecDepth 100000 in
theorem eqRooms_yes (A A' D D' : Option Addr) (c c' lo lo' : Nat) (rs rs' : List RoomE) (ds ds' : List DoorE) (w : World) (hA : MapW w lo A rs D ds) (hB : MapW w lo' A' rs' D' ds') (he : rs.map RoomE.er = rs'.map RoomE.er) :
  Calls Tryz.prog 62 #[.slice A rs.length c,.slice A' rs'.length c',.func (.func 63) #[] #[]] w fun e w' => e = .returned (.bool true) ∧ Below w.heap.size w w':=by
 have hlen : rs.length = rs'.length:=by have:=congrArg List.length he; simpa using this
 have hsl:=hA.s.rl
 have HE:=Lib.hid (er_at he)
 have h0 : ((rs.length : Int) != (rs'.length : Int)) = false:=by simp [hlen]
 have HLEN:=Lib.hid hlen
 have HG:=Lib.hid hA.s.rg
 clear hlen he
 go_enter Tryz.func62,Tryz.ntmps62
 go_wp2_with fail
 go_loopw [17] (fun i wr => ∃ (k : Nat),k ≤ rs.length ∧ i = .int .i64 k ∧ Below w.heap.size w wr) (fun i _ => rs.length - (intOf i).toNat)
 case atStart => exact ⟨0,Nat.zero_le _,rfl,Below.refl _ _⟩
 case round =>
  obtain ⟨k,hk,rfl,hbw⟩:=hrel
  have hz:=hbw.size
  by_cases hlt : k < rs.length
  ·have hlt' : k < rs'.length:=by have:=HLEN.out; omega
   have hA2:=hA.below hbw
   have hB2:=hB.below hbw
   obtain ⟨b,off,rfl,hbs,hc⟩:=hA2.room (by omega)
   obtain ⟨b',off',rfl,hbs',hd⟩:=hB2.room (by omega)
   obtain ⟨c0,c1⟩:=hc k hlt
   obtain ⟨d0,d1⟩:=hd k hlt'
   obtain ⟨q1,q2⟩:=HE.out k hlt hlt'
   have hg:=(HG.out _ (List.getElem_mem hlt)).1
   have r1:=(hA2.gives _ (List.getElem_mem hlt)).1
   have r2:=(hB2.gives _ (List.getElem_mem hlt')).1
   clear hA2 hB2 hc hd
   generalize rs[k] = x at *
   generalize rs'[k] = y at *
   obtain ⟨xk,xg,xB,xc⟩:=x
   obtain ⟨yk,yg,yB,yc⟩:=y
   dsimp only at *
   subst q1 q2
   simp only [encStr] at c0 d0
   go_wp2_with fail
   refine (sameR_yes xB yB xc yc lo lo' xk xg _ ((r1.alloc _).alloc _) ((r2.alloc _).alloc _) (by omega)).mono ?_
   rintro e w1 ⟨rfl,hb1⟩
   go_wp2_with fail
   go_roundw
   case rel => exact ⟨k + 1,by omega,by go_num,below_up (by repeat (first | exact hbw | refine Below.alloc ?_ (by first | omega | (simp; omega) | simp) _ | refine below_drewN' ?_ _ | refine Below.drew ?_)) hb1⟩
   case measure => simp [intOf]; omega
  ·go_wp2_with fail
   go_ret
   exact ⟨rfl,hbw⟩
set_option maxHeartbeats 4000000 in
set_option maxRecDepth 100000 in
theorem eqDoors_yes (A A' D D' : Option Addr) (c c' lo lo' : Nat) (rs rs' : List RoomE) (ds ds' : List DoorE) (w : World) (hA : MapW w lo A rs D ds) (hB : MapW w lo' A' rs' D' ds') (he : ds.map DoorE.er = ds'.map DoorE.er) :
  Calls Tryz.prog 64 #[.slice D ds.length c,.slice D' ds'.length c',.func (.func 65) #[] #[]] w fun e w' => e = .returned (.bool true) ∧ Below w.heap.size w w':=by
 have hlen : ds.length = ds'.length:=by have:=congrArg List.length he; simpa using this
 have hsl:=hA.s.dl
 have HE:=Lib.hid (erD_at he)
 have h0 : ((ds.length : Int) != (ds'.length : Int)) = false:=by simp [hlen]
 have HLEN:=Lib.hid hlen
 have HG:=Lib.hid hA.s.dn
 have HH:=Lib.hid hA.s.dx
 clear hlen he
 go_enter Tryz.func64,Tryz.ntmps64
 go_wp2_with fail
 go_loopw [17] (fun i wr => ∃ (k : Nat),k ≤ ds.length ∧ i = .int .i64 k ∧ Below w.heap.size w wr) (fun i _ => ds.length - (intOf i).toNat)
 case atStart => exact ⟨0,Nat.zero_le _,rfl,Below.refl _ _⟩
 case round =>
  obtain ⟨k,hk,rfl,hbw⟩:=hrel
  have hz:=hbw.size
  by_cases hlt : k < ds.length
  ·have hlt' : k < ds'.length:=by have:=HLEN.out; omega
   have hA2:=hA.below hbw
   have hB2:=hB.below hbw
   obtain ⟨b,off,rfl,hbs,hc⟩:=hA2.door (by omega)
   obtain ⟨b',off',rfl,hbs',hd⟩:=hB2.door (by omega)
   obtain ⟨c0,c1,c2,c3,c4,c5,c6⟩:=hc k hlt
   obtain ⟨d0,d1,d2,d3,d4,d5,d6⟩:=hd k hlt'
   obtain ⟨q1,q2,q3,q4,q5,q6,q7⟩:=HE.out k hlt hlt'
   have hg:=(HG.out _ (List.getElem_mem hlt)).1
   have hh:=(HH.out _ (List.getElem_mem hlt)).1
   have r1:=(hA2.needs _ (List.getElem_mem hlt)).1
   have r2:=(hB2.needs _ (List.getElem_mem hlt')).1
   have s1:=(hA2.takes _ (List.getElem_mem hlt)).1
   have s2:=(hB2.takes _ (List.getElem_mem hlt')).1
   clear hA2 hB2 hc hd
   generalize ds[k] = x at *
   generalize ds'[k] = y at *
   obtain ⟨x1,x2,x3,x4,x5,x6,x7,x8,x9,x10,x11⟩:=x
   obtain ⟨y1,y2,y3,y4,y5,y6,y7,y8,y9,y10,y11⟩:=y
   dsimp only at *
   subst q1 q2 q3 q4 q5 q6 q7
   simp only [encStr] at c0 c1 c2 c6 d0 d1 d2 d6
   go_wp2_with fail
   refine (sameD_yes x8 y8 x10 y10 x9 y9 x11 y11 lo lo' x1 x2 x3 x7 x4 x5 x6 _ ((r1.alloc _).alloc _) ((r2.alloc _).alloc _) ((s1.alloc _).alloc _) ((s2.alloc _).alloc _) (by omega) (by omega)).mono ?_
   rintro e w1 ⟨rfl,hb1⟩
   go_wp2_with fail
   go_roundw
   case rel => exact ⟨k + 1,by omega,by go_num,below_up (by repeat (first | exact hbw | refine Below.alloc ?_ (by first | omega | (simp; omega) | simp) _ | refine below_drewN' ?_ _ | refine Below.drew ?_)) hb1⟩
   case measure => simp [intOf]; omega
  ·go_wp2_with fail
   go_ret
   exact ⟨rfl,hbw⟩
set_option maxHeartbeats 4000000 in
set_option maxRecDepth 100000 in
theorem sameMap_yes (A A' D D' : Option Addr) (ca ca' cd cd' lo lo' : Nat) (rs rs' : List RoomE) (ds ds' : List DoorE) (st gl : List UInt8) (w : World) (hA : MapW w lo A rs D ds) (hB : MapW w lo' A' rs' D' ds') (he : rs.map RoomE.er = rs'.map RoomE.er) (hd : ds.map DoorE.er = ds'.map DoorE.er) :
  Calls Tryz.prog 16 #[.agg #[.slice A rs.length ca,.slice D ds.length cd,.string ⟨st.toArray⟩,.string ⟨gl.toArray⟩],.agg #[.slice A' rs'.length ca',.slice D' ds'.length cd',.string ⟨st.toArray⟩,.string ⟨gl.toArray⟩]] w fun e w' => e = .returned (.bool true) ∧ Below w.heap.size w w':=by
 have e1 : (st == st) = true:=by simp
 have e2 : (gl == gl) = true:=by simp
 have HE:=Lib.hid he
 have HD:=Lib.hid hd
 clear he hd
 go_enter Tryz.func16,Tryz.ntmps16
 go_wp2_with fail
 have hA2:=(hA.alloc (.cells #[.slice A rs.length ca,.slice D ds.length cd,.string ⟨st.toArray⟩,.string ⟨gl.toArray⟩] 29)).alloc (.cells #[.slice A' rs'.length ca',.slice D' ds'.length cd',.string ⟨st.toArray⟩,.string ⟨gl.toArray⟩] 29)
 have hB2:=(hB.alloc (.cells #[.slice A rs.length ca,.slice D ds.length cd,.string ⟨st.toArray⟩,.string ⟨gl.toArray⟩] 29)).alloc (.cells #[.slice A' rs'.length ca',.slice D' ds'.length cd',.string ⟨st.toArray⟩,.string ⟨gl.toArray⟩] 29)
 have k1 : Blk ((w.alloc (.cells #[.slice A rs.length ca,.slice D ds.length cd,.string ⟨st.toArray⟩,.string ⟨gl.toArray⟩] 29)).alloc (.cells #[.slice A' rs'.length ca',.slice D' ds'.length cd',.string ⟨st.toArray⟩,.string ⟨gl.toArray⟩] 29)) w.heap.size 29 #[.slice A rs.length ca,.slice D ds.length cd,.string ⟨st.toArray⟩,.string ⟨gl.toArray⟩]:=(Blk.new _ _ _).alloc _
 have k2 : Blk ((w.alloc (.cells #[.slice A rs.length ca,.slice D ds.length cd,.string ⟨st.toArray⟩,.string ⟨gl.toArray⟩] 29)).alloc (.cells #[.slice A' rs'.length ca',.slice D' ds'.length cd',.string ⟨st.toArray⟩,.string ⟨gl.toArray⟩] 29)) (w.heap.size + 1) 29 #[.slice A' rs'.length ca',.slice D' ds'.length cd',.string ⟨st.toArray⟩,.string ⟨gl.toArray⟩]:=Blk.at_ _ (by simp)
 refine (eqRooms_yes A A' D D' ca ca' lo lo' rs rs' ds ds' _ hA2 hB2 HE.out).mono ?_
 rintro e w1 ⟨rfl,hb1⟩
 replace hA2:=hA2.below hb1
 replace hB2:=hB2.below hb1
 have hbw:=below_up (show Below w.heap.size w _ from (by repeat (first | exact Below.refl _ _ | refine Below.alloc ?_ (by first | omega | (simp; omega) | simp) _ | refine below_drewN' ?_ _ | refine Below.drew ?_))) hb1
 have c1:=(k1.below hb1).cell 1
 have c2:=(k2.below hb1).cell 1
 have z1:=(k1.below hb1).lt
 have z2:=(k2.below hb1).lt
 simp only [Q0,Q2,Q1] at c1 c2
 clear k1 k2
 go_wp2_with fail
 refine (eqDoors_yes A A' D D' cd cd' lo lo' rs rs' ds ds' _ hA2 hB2 HD.out).mono ?_
 rintro e w2 ⟨rfl,hb2⟩
 go_wp2_with fail
 go_ret
 exact ⟨rfl,below_up hbw hb2⟩
end Go.Proofs.YtpialnjfdbfkdaaGreatDoor
