/- Texts of this seat, laid together: Nd Nv Ne Ns. -/
import Derived.Handy
import Derived.Test.YtijdbbnnkogkjaaGreatDoorBk43
import Derived.Test.YtijdbbnnkogkjaaGreatDoorBk39
import Derived.Test.YtijdbbnnkogkjaaGreatDoorBk24
import Derived.Test.YtijdbbnnkogkjaaGreatDoorBk40
/- The closure of route.Read: a line is counted and read. -/
namespace Go.Proofs.YtijdbbnnkogkjaaGreatDoor
set_option linter.unusedVariables false
set_option linter.unusedSimpArgs false
open Go.RowKit Go.Sort

theorem Stays.more {L : Nat} {bs cs : List Nat} {w w' : World} (h : Stays L bs w w') (hm : ∀ x ∈ bs,x ∈ cs) : Stays L cs w w' :=
 ⟨h.os,h.tape,h.output,h.size,fun k h1 h2 => h.block k h1 (fun e => h2 (hm k e))⟩
theorem Blk.stays {L b : Nat} {bs : List Nat} {w w' : World} {t : TypeId} {cs : Array Value} (h : Blk w b t cs) (hs : Stays L bs w w') (hb : b < L) (hn : b ∉ bs) : Blk w' b t cs:=(hs.block b hb hn).trans h
theorem MpA.setOff {t : List UInt8} {b1 b2 L k : Nat} {W : World} (h : MpA t b2 L k W) (hb : b1 < L) (hne : b1 ≠ b2) (u : Value) : MpA t b2 L k (W.setCell ⟨b1,0,none⟩ u):=by
 obtain ⟨A,ca,rs,D,cd,ds,h1,h2,h3,h4⟩:=h
 exact ⟨A,ca,rs,D,cd,ds,h1.past b1 0 u (fun e => hne e.symm),h2.setOff (p:=⟨b1,0,none⟩) hb u,h3,h4⟩
structure MpRd (t : List UInt8) (T : TypeId) (V : Nat → Value) (b1 b2 L k : Nat) (W : World) : Prop where
  lt1 : b1 < L
  lt2 : b2 < L
  ne : b1 ≠ b2
  cnt : Blk W b1 T #[V k]
  m : MpA t b2 L k W
theorem MpRd.below {t : List UInt8} {T : TypeId} {V : Nat → Value} {b1 b2 L k : Nat} {W W' : World} (h : MpRd t T V b1 b2 L k W) (hb : Below W.heap.size W W') : MpRd t T V b1 b2 L k W':=⟨h.lt1,h.lt2,h.ne,h.cnt.below hb,h.m.below hb⟩
def MpCl (t : List UInt8) (T : TypeId) (V : Nat → Value) (b1 b2 L k : Nat) (W : World) (e : Ending) (W' : World) : Prop :=
 e = .returned (.bool (okM t k)) ∧ Stays L [b1,b2] W W' ∧ (okM t k = true → MpRd t T V b1 b2 L (k + 1) W')
def cntV (k : Nat) : Value:=.int .i64 (k : Int)
def fstV (k : Nat) : Value:=.bool (decide (k = 0))
set_option maxHeartbeats 4000000 in
set_option maxRecDepth 100000 in
theorem readC_any (t : List UInt8) (b1 b2 B L k : Nat) (W : World) (ht : t.length ≤ 1000000) (hk : k < (linesL t).length) (hL : L ≤ W.heap.size) (hE : EnvB B W) (hB1 : B ≤ b1) (hB2 : B ≤ b2) (hBL : B ≤ L) (h : MpRd t 3 cntV b1 b2 L k W) :
  Calls Tryz.prog 72 #[encStr (linesL t)[k],.pointer (some ⟨b1,0,none⟩),.pointer (some ⟨b2,0,none⟩)] W (MpCl t 3 cntV b1 b2 L k W):=by
 obtain ⟨l1,l2,hne,hcnt,hm⟩:=h
 have hkn : k ≤ 1000001:=by have:=(linesL_le t).1; omega
 have hsz : L ≤ (W.setCell ⟨b1,0,none⟩ (.int .i64 ((k + 1 : Nat) : Int))).heap.size:=by simpa [World.setCell] using hL
 have hE1 : EnvB B (W.setCell ⟨b1,0,none⟩ (.int .i64 ((k + 1 : Nat) : Int))):=hE.below ((Below.refl _ _).setCell (p:=⟨b1,0,none⟩) hB1 _)
 have hm1:=hm.setOff l1 hne (.int .i64 ((k + 1 : Nat) : Int))
 have hc1 : Blk (W.setCell ⟨b1,0,none⟩ (.int .i64 ((k + 1 : Nat) : Int))) b1 3 #[.int .i64 ((k + 1 : Nat) : Int)]:=by simpa using hcnt.poke 0 (.int .i64 ((k + 1 : Nat) : Int))
 have hs1 : Stays L [b1,b2] W (W.setCell ⟨b1,0,none⟩ (.int .i64 ((k + 1 : Nat) : Int))):=(Stays.refl L [b1,b2] W).set (p:=⟨b1,0,none⟩) (.inl (by simp)) _
 have hrl:=readLine_any t b2 B L k (decide (k = 0)) _ ht hk hsz hE1 hBL hB2 l2 rfl hm1
 have c0 : W.cell? ⟨b1,0,none⟩ = some (.int .i64 (k : Int)):=by simpa [cntV] using hcnt.cell 0
 have f0:=hcnt.thaw 0
 have z0:=hcnt.lt
 have w1 : IntKind.i64.wrap ((k : Int) + 1) = ((k + 1 : Nat) : Int):=by rw [IntWalk.i64_in _ ⟨by omega,by omega⟩]; push_cast; rfl
 have d1 : (((k + 1 : Nat) : Int) == 1) = decide (k = 0):=by
  by_cases h0 : k = 0
  ·rw [decide_eq_true h0,h0]; rfl
  ·rw [decide_eq_false h0]; exact beq_eq_false_iff_ne.2 (by omega)
 have GOOD : Hid (∀ e W',MpLn t b2 L k (W.setCell ⟨b1,0,none⟩ (.int .i64 ((k + 1 : Nat) : Int))) e W' → MpCl t 3 cntV b1 b2 L k W e W'):=Lib.hid (fun e W' ⟨h1,h2,h3⟩ => ⟨h1,hs1.trans (h2.more (by simp)),fun ho => ⟨l1,l2,hne,hc1.stays h2 l1 (by simpa using hne),h3 ho⟩⟩)
 generalize hP : MpCl t 3 cntV b1 b2 L k W = Post at *
 obtain ⟨b,hb⟩ : ∃ b,b = okM t k:=⟨_,rfl⟩
 clear hP hcnt hm hm1 hc1 hs1 hE hE1 hsz
 generalize (linesL t)[k] = s at *
 generalize decide (k = 0) = fst at *
 generalize ((k + 1 : Nat) : Int) = k1 at *
 go_enter Tryz.func72,Tryz.ntmps72
 go_wp2_with fail
 refine hrl.mono ?_
 clear hrl
 rintro e w2 hp
 have hq:=GOOD.out e w2 hp
 obtain ⟨rfl,-,-⟩:=hp
 rw [← hb] at hq ⊢
 clear hb
 go_wp2_with fail
 exact hq
end Go.Proofs.YtijdbbnnkogkjaaGreatDoor
/- The walk of splitref1.SameMap at maps that are the same. -/
namespace Go.Proofs.YtijdbbnnkogkjaaGreatDoor
set_option linter.unusedVariables false
set_option linter.unusedSimpArgs false
open Go.RowKit Go.Sort

set_option maxHeartbeats 2000000 in
set_option maxRecDepth 100000 in
theorem sameR_yes (B B' : Option Addr) (c c' lo lo' : Nat) (key : List UInt8) (g : List (List UInt8)) (w : World) (hr : Row w lo 1 B g.length (strs g)) (hr' : Row w lo' 1 B' g.length (strs g)) (hl : g.length ≤ 1000000000) :
  Calls Tryz.prog 80 #[.agg #[.string ⟨key.toArray⟩,.slice B g.length c],.agg #[.string ⟨key.toArray⟩,.slice B' g.length c']] w fun e w' => e = .returned (.bool true) ∧ Below w.heap.size w w':=by
 have e1 : (key == key) = true:=by simp
 go_enter Tryz.func80,Tryz.ntmps80
 go_wp2_with fail
 refine (equalS_any B B' c c' lo lo' g g _ ((hr.alloc _).alloc _) ((hr'.alloc _).alloc _) hl hl).mono ?_
 rintro e w1 ⟨rfl,q,rfl⟩
 rw [decide_eq_true rfl]
 go_wp2_with fail
 go_ret
 exact ⟨rfl,(by repeat (first | exact Below.refl _ _ | refine Below.alloc ?_ (by first | omega | (simp; omega) | simp) _ | refine below_drewN' ?_ _ | refine Below.drew ?_))⟩
set_option maxHeartbeats 4000000 in
set_option maxRecDepth 100000 in
theorem sameD_yes (N N' T T' : Option Addr) (c c' d d' lo lo' : Nat) (key src dst trk : List UInt8) (tm : Int) (g h : List (List UInt8)) (w : World) (hn : Row w lo 1 N g.length (strs g)) (hn' : Row w lo' 1 N' g.length (strs g)) (ht : Row w lo 1 T h.length (strs h)) (ht' : Row w lo' 1 T' h.length (strs h)) (hl : g.length ≤ 1000000000) (hm : h.length ≤ 1000000000) :
  Calls Tryz.prog 82 #[.agg #[.string ⟨key.toArray⟩,.string ⟨src.toArray⟩,.string ⟨dst.toArray⟩,.int .i64 tm,.slice N g.length c,.slice T h.length d,.string ⟨trk.toArray⟩],.agg #[.string ⟨key.toArray⟩,.string ⟨src.toArray⟩,.string ⟨dst.toArray⟩,.int .i64 tm,.slice N' g.length c',.slice T' h.length d',.string ⟨trk.toArray⟩]] w fun e w' => e = .returned (.bool true) ∧ Below w.heap.size w w':=by
 have e1 : (key == key) = true:=by simp
 have e2 : (src == src) = true:=by simp
 have e3 : (dst == dst) = true:=by simp
 have e4 : (trk == trk) = true:=by simp
 have e5 : (tm == tm) = true:=by simp
 go_enter Tryz.func82,Tryz.ntmps82
 go_wp2_with fail
 refine (equalS_any N N' c c' lo lo' g g _ ((hn.alloc _).alloc _) ((hn'.alloc _).alloc _) hl hl).mono ?_
 rintro e w1 ⟨rfl,q,rfl⟩
 rw [decide_eq_true rfl]
 go_wp2_with fail
 refine (equalS_any T T' d d' lo lo' h h _ (((ht.alloc _).alloc _).below (below_drewN' (Below.refl _ _) q)) (((ht'.alloc _).alloc _).below (below_drewN' (Below.refl _ _) q)) hm hm).mono ?_
 rintro e w1 ⟨rfl,q2,rfl⟩
 rw [decide_eq_true rfl]
 go_wp2_with fail
 go_ret
 exact ⟨rfl,(by repeat (first | exact Below.refl _ _ | refine Below.alloc ?_ (by first | omega | (simp; omega) | simp) _ | refine below_drewN' ?_ _ | refine Below.drew ?_))⟩
theorem er_at {rs rs' : List RoomE} (he : rs.map RoomE.er = rs'.map RoomE.er) (k : Nat) (hk : k < rs.length) (hk' : k < rs'.length) : rs[k].key = rs'[k].key ∧ rs[k].gives = rs'[k].gives:=by
 have h1 : (rs.map RoomE.er)[k]? = (rs'.map RoomE.er)[k]?:=by rw [he]
 rw [List.getElem?_map,List.getElem?_map,List.getElem?_eq_getElem hk,List.getElem?_eq_getElem hk'] at h1
 simp only [Option.map_some,Option.some.injEq] at h1
 have a:=congrArg RoomE.key h1
 have b:=congrArg RoomE.gives h1
 exact ⟨a,b⟩
theorem erD_at {ds ds' : List DoorE} (he : ds.map DoorE.er = ds'.map DoorE.er) (k : Nat) (hk : k < ds.length) (hk' : k < ds'.length) : ds[k].key = ds'[k].key ∧ ds[k].src = ds'[k].src ∧ ds[k].dst = ds'[k].dst ∧ ds[k].time = ds'[k].time ∧ ds[k].needs = ds'[k].needs ∧ ds[k].takes = ds'[k].takes ∧ ds[k].trick = ds'[k].trick:=by
 have h1 : (ds.map DoorE.er)[k]? = (ds'.map DoorE.er)[k]?:=by rw [he]
 rw [List.getElem?_map,List.getElem?_map,List.getElem?_eq_getElem hk,List.getElem?_eq_getElem hk'] at h1
 simp only [Option.map_some,Option.some.injEq] at h1
 have a1:=congrArg DoorE.key h1
 have a2:=congrArg DoorE.src h1
 have a3:=congrArg DoorE.dst h1
 have a4:=congrArg DoorE.time h1
 have a5:=congrArg DoorE.needs h1
 have a6:=congrArg DoorE.takes h1
 have a7:=congrArg DoorE.trick h1
 exact ⟨a1,a2,a3,a4,a5,a6,a7⟩
set_option maxHeartbeats 2000000 in
set_option maxRecDepth 100000 in
theorem eqRooms_yes (A A' D D' : Option Addr) (c c' lo lo' : Nat) (rs rs' : List RoomE) (ds ds' : List DoorE) (w : World) (hA : MapW w lo A rs D ds) (hB : MapW w lo' A' rs' D' ds') (he : rs.map RoomE.er = rs'.map RoomE.er) :
  Calls Tryz.prog 79 #[.slice A rs.length c,.slice A' rs'.length c',.func (.func 80) #[] #[]] w fun e w' => e = .returned (.bool true) ∧ Below w.heap.size w w':=by
 have hlen : rs.length = rs'.length:=by have:=congrArg List.length he; simpa using this
 have hsl:=hA.s.rl
 have HE:=Lib.hid (er_at he)
 have h0 : ((rs.length : Int) != (rs'.length : Int)) = false:=by simp [hlen]
 have HLEN:=Lib.hid hlen
 have HG:=Lib.hid hA.s.rg
 clear hlen he
 go_enter Tryz.func79,Tryz.ntmps79
 go_wp2_with fail
 go_loopw [17] (fun i wr => ∃ (k : Nat),k ≤ rs.length ∧ i = .int .i64 k ∧ Below w.heap.size w wr) (fun i _ => rs.length - (intOf i).toNat)
 case atStart => exact ⟨0,Nat.zero_le _,rfl,Below.refl _ _⟩
 case round =>
  obtain ⟨k,hk,rfl,hbw⟩:=hrel
  have hz:=hbw.size
  by_cases hlt : k < rs.length
  ·have hlt' : k < rs'.length:=by have:=HLEN.out; omega
   have hA2:=hA.below hbw
   have hB2:=hB.below hbw
   obtain ⟨b,off,rfl,hbs,hc⟩:=hA2.room (by omega)
   obtain ⟨b',off',rfl,hbs',hd⟩:=hB2.room (by omega)
   obtain ⟨c0,c1⟩:=hc k hlt
   obtain ⟨d0,d1⟩:=hd k hlt'
   obtain ⟨q1,q2⟩:=HE.out k hlt hlt'
   have hg:=(HG.out _ (List.getElem_mem hlt)).1
   have r1:=(hA2.gives _ (List.getElem_mem hlt)).1
   have r2:=(hB2.gives _ (List.getElem_mem hlt')).1
   clear hA2 hB2 hc hd
   generalize rs[k] = x at *
   generalize rs'[k] = y at *
   obtain ⟨xk,xg,xB,xc⟩:=x
   obtain ⟨yk,yg,yB,yc⟩:=y
   dsimp only at *
   subst q1 q2
   simp only [encStr] at c0 d0
   go_wp2_with fail
   refine (sameR_yes xB yB xc yc lo lo' xk xg _ ((r1.alloc _).alloc _) ((r2.alloc _).alloc _) (by omega)).mono ?_
   rintro e w1 ⟨rfl,hb1⟩
   go_wp2_with fail
   go_roundw
   case rel => exact ⟨k + 1,by omega,by go_num,below_up (by repeat (first | exact hbw | refine Below.alloc ?_ (by first | omega | (simp; omega) | simp) _ | refine below_drewN' ?_ _ | refine Below.drew ?_)) hb1⟩
   case measure => simp [intOf]; omega
  ·go_wp2_with fail
   go_ret
   exact ⟨rfl,hbw⟩
set_option maxHeartbeats 4000000 in
set_option maxRecDepth 100000 in
theorem eqDoors_yes (A A' D D' : Option Addr) (c c' lo lo' : Nat) (rs rs' : List RoomE) (ds ds' : List DoorE) (w : World) (hA : MapW w lo A rs D ds) (hB : MapW w lo' A' rs' D' ds') (he : ds.map DoorE.er = ds'.map DoorE.er) :
  Calls Tryz.prog 81 #[.slice D ds.length c,.slice D' ds'.length c',.func (.func 82) #[] #[]] w fun e w' => e = .returned (.bool true) ∧ Below w.heap.size w w':=by
 have hlen : ds.length = ds'.length:=by have:=congrArg List.length he; simpa using this
 have hsl:=hA.s.dl
 have HE:=Lib.hid (erD_at he)
 have h0 : ((ds.length : Int) != (ds'.length : Int)) = false:=by simp [hlen]
 have HLEN:=Lib.hid hlen
 have HG:=Lib.hid hA.s.dn
 have HH:=Lib.hid hA.s.dx
 clear hlen he
 go_enter Tryz.func81,Tryz.ntmps81
 go_wp2_with fail
 go_loopw [17] (fun i wr => ∃ (k : Nat),k ≤ ds.length ∧ i = .int .i64 k ∧ Below w.heap.size w wr) (fun i _ => ds.length - (intOf i).toNat)
 case atStart => exact ⟨0,Nat.zero_le _,rfl,Below.refl _ _⟩
 case round =>
  obtain ⟨k,hk,rfl,hbw⟩:=hrel
  have hz:=hbw.size
  by_cases hlt : k < ds.length
  ·have hlt' : k < ds'.length:=by have:=HLEN.out; omega
   have hA2:=hA.below hbw
   have hB2:=hB.below hbw
   obtain ⟨b,off,rfl,hbs,hc⟩:=hA2.door (by omega)
   obtain ⟨b',off',rfl,hbs',hd⟩:=hB2.door (by omega)
   obtain ⟨c0,c1,c2,c3,c4,c5,c6⟩:=hc k hlt
   obtain ⟨d0,d1,d2,d3,d4,d5,d6⟩:=hd k hlt'
   obtain ⟨q1,q2,q3,q4,q5,q6,q7⟩:=HE.out k hlt hlt'
   have hg:=(HG.out _ (List.getElem_mem hlt)).1
   have hh:=(HH.out _ (List.getElem_mem hlt)).1
   have r1:=(hA2.needs _ (List.getElem_mem hlt)).1
   have r2:=(hB2.needs _ (List.getElem_mem hlt')).1
   have s1:=(hA2.takes _ (List.getElem_mem hlt)).1
   have s2:=(hB2.takes _ (List.getElem_mem hlt')).1
   clear hA2 hB2 hc hd
   generalize ds[k] = x at *
   generalize ds'[k] = y at *
   obtain ⟨x1,x2,x3,x4,x5,x6,x7,x8,x9,x10,x11⟩:=x
   obtain ⟨y1,y2,y3,y4,y5,y6,y7,y8,y9,y10,y11⟩:=y
   dsimp only at *
   subst q1 q2 q3 q4 q5 q6 q7
   simp only [encStr] at c0 c1 c2 c6 d0 d1 d2 d6
   go_wp2_with fail
   refine (sameD_yes x8 y8 x10 y10 x9 y9 x11 y11 lo lo' x1 x2 x3 x7 x4 x5 x6 _ ((r1.alloc _).alloc _) ((r2.alloc _).alloc _) ((s1.alloc _).alloc _) ((s2.alloc _).alloc _) (by omega) (by omega)).mono ?_
   rintro e w1 ⟨rfl,hb1⟩
   go_wp2_with fail
   go_roundw
   case rel => exact ⟨k + 1,by omega,by go_num,below_up (by repeat (first | exact hbw | refine Below.alloc ?_ (by first | omega | (simp; omega) | simp) _ | refine below_drewN' ?_ _ | refine Below.drew ?_)) hb1⟩
   case measure => simp [intOf]; omega
  ·go_wp2_with fail
   go_ret
   exact ⟨rfl,hbw⟩
set_option maxHeartbeats 4000000 in
set_option maxRecDepth 100000 in
theorem sameMap_yes (A A' D D' : Option Addr) (ca ca' cd cd' lo lo' : Nat) (rs rs' : List RoomE) (ds ds' : List DoorE) (st gl : List UInt8) (w : World) (hA : MapW w lo A rs D ds) (hB : MapW w lo' A' rs' D' ds') (he : rs.map RoomE.er = rs'.map RoomE.er) (hd : ds.map DoorE.er = ds'.map DoorE.er) :
  Calls Tryz.prog 24 #[.agg #[.slice A rs.length ca,.slice D ds.length cd,.string ⟨st.toArray⟩,.string ⟨gl.toArray⟩],.agg #[.slice A' rs'.length ca',.slice D' ds'.length cd',.string ⟨st.toArray⟩,.string ⟨gl.toArray⟩]] w fun e w' => e = .returned (.bool true) ∧ Below w.heap.size w w':=by
 have e1 : (st == st) = true:=by simp
 have e2 : (gl == gl) = true:=by simp
 have HE:=Lib.hid he
 have HD:=Lib.hid hd
 clear he hd
 go_enter Tryz.func24,Tryz.ntmps24
 go_wp2_with fail
 have hA2:=(hA.alloc (.cells #[.slice A rs.length ca,.slice D ds.length cd,.string ⟨st.toArray⟩,.string ⟨gl.toArray⟩] 29)).alloc (.cells #[.slice A' rs'.length ca',.slice D' ds'.length cd',.string ⟨st.toArray⟩,.string ⟨gl.toArray⟩] 29)
 have hB2:=(hB.alloc (.cells #[.slice A rs.length ca,.slice D ds.length cd,.string ⟨st.toArray⟩,.string ⟨gl.toArray⟩] 29)).alloc (.cells #[.slice A' rs'.length ca',.slice D' ds'.length cd',.string ⟨st.toArray⟩,.string ⟨gl.toArray⟩] 29)
 have k1 : Blk ((w.alloc (.cells #[.slice A rs.length ca,.slice D ds.length cd,.string ⟨st.toArray⟩,.string ⟨gl.toArray⟩] 29)).alloc (.cells #[.slice A' rs'.length ca',.slice D' ds'.length cd',.string ⟨st.toArray⟩,.string ⟨gl.toArray⟩] 29)) w.heap.size 29 #[.slice A rs.length ca,.slice D ds.length cd,.string ⟨st.toArray⟩,.string ⟨gl.toArray⟩]:=(Blk.new _ _ _).alloc _
 have k2 : Blk ((w.alloc (.cells #[.slice A rs.length ca,.slice D ds.length cd,.string ⟨st.toArray⟩,.string ⟨gl.toArray⟩] 29)).alloc (.cells #[.slice A' rs'.length ca',.slice D' ds'.length cd',.string ⟨st.toArray⟩,.string ⟨gl.toArray⟩] 29)) (w.heap.size + 1) 29 #[.slice A' rs'.length ca',.slice D' ds'.length cd',.string ⟨st.toArray⟩,.string ⟨gl.toArray⟩]:=Blk.at_ _ (by simp)
 refine (eqRooms_yes A A' D D' ca ca' lo lo' rs rs' ds ds' _ hA2 hB2 HE.out).mono ?_
 rintro e w1 ⟨rfl,hb1⟩
 replace hA2:=hA2.below hb1
 replace hB2:=hB2.below hb1
 have hbw:=below_up (show Below w.heap.size w _ from (by repeat (first | exact Below.refl _ _ | refine Below.alloc ?_ (by first | omega | (simp; omega) | simp) _ | refine below_drewN' ?_ _ | refine Below.drew ?_))) hb1
 have c1:=(k1.below hb1).cell 1
 have c2:=(k2.below hb1).cell 1
 have z1:=(k1.below hb1).lt
 have z2:=(k2.below hb1).lt
 simp only [List.getElem?_toArray,List.getElem?_cons_zero,List.getElem?_cons_succ] at c1 c2
 clear k1 k2
 go_wp2_with fail
 refine (eqDoors_yes A A' D D' cd cd' lo lo' rs rs' ds ds' _ hA2 hB2 HD.out).mono ?_
 rintro e w2 ⟨rfl,hb2⟩
 go_wp2_with fail
 go_ret
 exact ⟨rfl,below_up hbw hb2⟩
end Go.Proofs.YtijdbbnnkogkjaaGreatDoor
/- A line of a map is read by the reference: splitref1.MapRead's closure. -/
namespace Go.Proofs.YtijdbbnnkogkjaaGreatDoor
set_option linter.unusedVariables false
set_option linter.unusedSimpArgs false
open Go.RowKit Go.Sort

theorem fullW_mem (ws : List (List UInt8)) : fullW ws = !decide ([] ∈ ws):=by
 by_cases hm : [] ∈ ws
 ·obtain ⟨k,hk,h⟩:=List.mem_iff_getElem.1 hm
  rw [decide_eq_true hm,fullW_no hk h]; rfl
 ·rw [decide_eq_false hm,fullW_yes (fun k hk h => hm (by rw [← h]; exact List.getElem_mem _))]; rfl
set_option maxHeartbeats 8000000 in
set_option maxRecDepth 100000 in
theorem refC_any (t : List UInt8) (b1 b2 B L k : Nat) (W : World) (ht : t.length ≤ 1000000) (hk : k < (linesL t).length) (hL : L ≤ W.heap.size) (hE : EnvB B W) (hB1 : B ≤ b1) (hB2 : B ≤ b2) (hBL : B ≤ L) (h : MpRd t 4 fstV b1 b2 L k W) :
  Calls Tryz.prog 75 #[encStr (linesL t)[k],.pointer (some ⟨b1,0,none⟩),.pointer (some ⟨b2,0,none⟩)] W (MpCl t 4 fstV b1 b2 L k W):=by
 obtain ⟨l1,hb2,hne12,hcnt,A,ca,rs,D,cd,ds,hbx,hmo,he1,he2⟩:=h
 have hkn : k ≤ 1000001:=by have:=(linesL_le t).1; omega
 have hsl : (linesL t)[k].length ≤ 1000000:=by have:=(linesL_le t).2 _ (List.getElem_mem hk); omega
 have HWT:=Lib.hid (lwM_at hk)
 have hcc:=List.count_le_length (a:=(32 : UInt8)) (l:=(linesL t)[k])
 have HWL : Hid (∀ x ∈ lwM t k,x.length ≤ 1000000):=Lib.hid (fun x hx => by
  rw [HWT.out] at hx
  have:=cutAt_sum 32 _ x hx; omega)
 have hwp : 0 < (lwM t k).length:=by rw [HWT.out]; exact List.length_pos_iff.2 (cutAt_ne _ _)
 have hwn : (lwM t k).length ≤ 1000001:=by rw [HWT.out,cutAt_len]; omega
 have hml:=mpR_len t k
 have hrl : rs.length ≤ 1000001:=by have:=congrArg List.length he1; rw [List.length_map] at this; omega
 have hdl : ds.length ≤ 1000001:=by have:=congrArg List.length he2; rw [List.length_map] at this; omega
 have HDL : Hid ((mpR t k).ds.length = ds.length):=Lib.hid (by rw [← he2,List.length_map])
 have HE1:=Lib.hid he1
 have HE2:=Lib.hid he2
 clear he1 he2 hml
 obtain ⟨st,hst⟩ : ∃ st,st = (mpR t k).st:=⟨_,rfl⟩
 obtain ⟨gl,hgl⟩ : ∃ gl,gl = (mpR t k).gl:=⟨_,rfl⟩
 rw [← hst,← hgl] at hbx
 have HST:=Lib.hid hst
 have HGL:=Lib.hid hgl
 clear hst hgl
 obtain ⟨fst,hfst⟩ : ∃ fst,fst = decide (k = 0):=⟨_,rfl⟩
 have HFS:=Lib.hid hfst
 have c9 : W.cell? ⟨b1,0,none⟩ = some (.bool fst):=by rw [hfst]; simpa [fstV] using hcnt.cell 0
 have HPOST : Hid (∀ W' x,Stays L [b1,b2] W W' → Blk W' b1 4 #[.bool false] → okM t k = x → (x = true → MpA t b2 L (k + 1) W') → MpCl t 4 fstV b1 b2 L k W (.returned (.bool x)) W'):=Lib.hid (fun W' x h1 h2 h3 h4 => ⟨by rw [h3],h1,fun ho => ⟨l1,hb2,hne12,by simpa [fstV] using h2,h4 (h3.symm.trans ho)⟩⟩)
 have HCW : Hid (cutAt 32 (linesL t)[k] = lwM t k):=Lib.hid HWT.out.symm
 generalize hP : MpCl t 4 fstV b1 b2 L k W = Post at *
 clear hP hfst
 generalize (linesL t)[k] = s at *
 go_enter Tryz.func75,Tryz.ntmps75
 go_wp2_with fail
 refine (split_any 32 s W (by omega) hE.env).mono ?_
 rintro e w1 ⟨bw,rfl,hbw,hkw,hb⟩
 rw [HCW.out] at hkw
 simp only [HCW.out]
 have c9 : w1.cell? ⟨b1,0,none⟩ = some (.bool fst):=(hb.cell (p:=⟨b1,0,none⟩) hcnt.lt).trans c9
 have f9:=(hcnt.below hb).thaw 0
 have z9:=(hcnt.below hb).lt
 have hc1 : Blk (w1.setCell ⟨b1,0,none⟩ (.bool false)) b1 4 #[.bool false]:=by simpa using (hcnt.below hb).poke 0 (.bool false)
 have hs1 : Stays L [b1,b2] W (w1.setCell ⟨b1,0,none⟩ (.bool false)):=(Stays.of_below (bs:=[b1,b2]) hb hL).set (p:=⟨b1,0,none⟩) (.inl (by simp)) _
 have hEB : EnvB B (w1.setCell ⟨b1,0,none⟩ (.bool false)):=(hE.below (hb.mono (Nat.le_trans hBL hL))).below ((Below.refl _ _).setCell (p:=⟨b1,0,none⟩) hB1 _)
 replace hbx:=(hbx.below hb).past b1 0 (.bool false) (fun e => hne12 e.symm)
 replace hmo:=(hmo.below hb).setOff (p:=⟨b1,0,none⟩) l1 (.bool false)
 have hbwL : L ≤ bw:=by omega
 replace hkw:=hkw.past b1 0 (.bool false) (by omega)
 have hz : L ≤ (w1.setCell ⟨b1,0,none⟩ (.bool false)).heap.size:=by have:=hb.size; simp [World.setCell]; omega
 clear hcnt hE hbw
 go_upto_region 4 with (fail)
 generalize w1.setCell ⟨b1,0,none⟩ (.bool false) = w2 at *
 clear c9 f9 z9 hb
 have BAD : Hid (∀ W',Stays L [b2] w2 W' → okM t k = false → Post (.returned (.bool false)) W'):=Lib.hid (fun W' h1 h2 => HPOST.out W' false (hs1.trans (h1.more (by simp))) (hc1.stays h1 l1 (by simpa using hne12)) h2 (fun h => by cases h))
 have GOOD : Hid (∀ W' x,Stays L [b2] w2 W' → okM t k = x → (x = true → MpA t b2 L (k + 1) W') → Post (.returned (.bool x)) W'):=Lib.hid (fun W' x h1 h2 h3 => HPOST.out W' x (hs1.trans (h1.more (by simp))) (hc1.stays h1 l1 (by simpa using hne12)) h2 h3)
 have hst : Stays L [b2] w2 w2:=Stays.refl _ _ _
 have hne : b2 ≠ bw:=by omega
 clear hs1 hc1 HPOST
 have hr9:=Blk.strRow (lo:=0) hkw (Nat.zero_le _)
 obtain ⟨y9,hy9⟩ : ∃ y,y = decide ([] ∈ lwM t k):=⟨_,rfl⟩
 have hcs:=containsS_any (some ⟨bw,0,none⟩) (lwM t k).length 0 (lwM t k) [] w2 hr9 (by omega)
 rw [← hy9] at hcs
 have HFW : Hid (fullW (lwM t k) = !y9):=Lib.hid (by rw [hy9]; exact fullW_mem _)
 clear hy9 hr9
 go_wp2_with fail
 refine hcs.mono ?_
 clear hcs
 rintro e w3 ⟨rfl,rfl⟩
 cases y9 with
 | true =>
  have HOK:=Lib.hid (okM_full HFW.out)
  go_wp2_with fail
  exact BAD.out _ hst HOK.out
 | false =>
 have HF : Hid (fullW (lwM t k) = true):=Lib.hid HFW.out
 have HCL : Hid (∀ W' : World,Blk W' bw 9 (strs (lwM t k)).toArray → ∀ j,j < (lwM t k).length → W'.cell? ⟨bw,j,none⟩ = some (.string ⟨((lwM t k).getD j []).toArray⟩)):=Lib.hid (fun W' h j hj => strs_cell h hj)
 clear HFW HWT HCW
 obtain ⟨w0,hw0⟩ : ∃ w0,w0 = (lwM t k).getD 0 []:=⟨_,rfl⟩
 have HW0:=Lib.hid hw0
 have c0:=HCL.out _ hkw 0 hwp
 rw [← hw0] at c0
 clear hw0
 obtain ⟨n,hn⟩ : ∃ n,n = (lwM t k).length:=⟨_,rfl⟩
 have HN:=Lib.hid hn
 rw [← hn] at hwp hwn HCL ⊢
 clear hn
 have hkw' : Hid (Blk w2 bw 9 (strs (lwM t k)).toArray):=Lib.hid hkw
 clear hkw
 have bwl : bw < w2.heap.size:=hkw'.out.lt
 by_cases hm : w0 = mapW
 ·have q1 : (w0 == [109,97,112]) = true:=beq_iff_eq.2 hm
  have HM:=Lib.hid hm
  cases fst with
  | false =>
   have HOK:=Lib.hid (okM_first HW0.out.symm (by rw [decide_eq_true hm,← HFS.out]; decide))
   clear hm
   go_wp2_with fail
   exact BAD.out _ hst HOK.out
  | true =>
   have hk0 : k = 0:=of_decide_eq_true HFS.out.symm
   have HOK0:=Lib.hid (okM_m HF.out (HW0.out.symm.trans hm) hk0)
   have q2 : (w0 == [114,111,111,109]) = false:=by rw [hm]; decide
   have q3 : (w0 == [100,111,111,114]) = false:=by rw [hm]; decide
   clear hm hk0
   by_cases hl : n = 3
   ·have d3 : ((n : Int) == 3) = true:=by rw [hl]; rfl
    have c1:=HCL.out _ hkw'.out 1 (by omega)
    have c2:=HCL.out _ hkw'.out 2 (by omega)
    have HOK : Hid (okM t k = true):=Lib.hid (by rw [HOK0.out,← HN.out]; exact decide_eq_true hl)
    obtain ⟨x,hx⟩ : ∃ x,x = (lwM t k).getD 1 []:=⟨_,rfl⟩
    obtain ⟨y,hy⟩ : ∃ y,y = (lwM t k).getD 2 []:=⟨_,rfl⟩
    rw [← hx] at c1
    rw [← hy] at c2
    have HX:=Lib.hid hx
    have HY:=Lib.hid hy
    have hn1 : 1 < n:=by omega
    have hn2 : 2 < n:=by omega
    clear hx hy HOK0 d3
    subst hl
    go_upto_region 7 with (fail)
    clear c0 c1 c2
    have hbz : Below w2.heap.size w2 w2.drew:=below_drewN' (Below.refl _ _) 1
    have hstD:=hst.trans (Stays.of_below (bs:=[b2]) hbz hz)
    have hbxD:=hbx.below hbz
    have hmoD:=hmo.below hbz
    have hkD:=hkw'.out.below hbz
    have hsc : (fun w' : World => w'.cell? ⟨bw,1,none⟩ = some (.string ⟨x.toArray⟩) ∧ w'.cell? ⟨bw,2,none⟩ = some (.string ⟨y.toArray⟩)) w2.drew:=⟨by rw [HX.out]; exact HCL.out _ hkD 1 hn1,by rw [HY.out]; exact HCL.out _ hkD 2 hn2⟩
    simp only at hsc
    have HPU:=Lib.hid (MpA.pushM hb2 (HW0.out.symm.trans HM.out) HX.out.symm HY.out.symm hbxD hmoD HE1.out HE2.out)
    have HS2:=Lib.hid ((hstD.set (p:=⟨b2,2,none⟩) (.inl (by simp)) (.string ⟨x.toArray⟩)).set (p:=⟨b2,3,none⟩) (.inl (by simp)) (.string ⟨y.toArray⟩))
    have g3 : w2.cell? ⟨b2,3,none⟩ = some (.string ⟨gl.toArray⟩):=hbx.cell 3
    have gf:=hbx.thaw 3
    have gz:=hbx.lt
    clear hst hbx hmo hmoD hstD hkD

    refine wp_region_held_drew (S:=(fun w' => w'.cell? ⟨bw,1,none⟩ = some (.string ⟨x.toArray⟩) ∧ w'.cell? ⟨bw,2,none⟩ = some (.string ⟨y.toArray⟩))) (by kernel_rfl) (hsc) (fun hHeld => ?_)
    (refine wpAnyH_take (i:=0) (v:=?_) (by (simp only [List.getElem?_toArray,List.getElem?_cons_zero]; rfl)) (by kernel_rfl) (by kernel_rfl) (by kernel_rfl) (by exact fun _ _ _ h => h) (Or.inl ⟨by rfl,?_⟩) (by assumption) ?_; (rotate_left 1; (intro w hSw; (try dsimp only at hSw); go_simp); (try with_reducible rfl)); (try simp only [Act.put,List.setIfInBounds_toArray,List.set_cons_zero,List.set_cons_succ]))
    (refine wpAnyH_take (i:=1) (v:=?_) (by (simp only [List.getElem?_toArray,List.getElem?_cons_succ,List.getElem?_cons_zero]; rfl)) (by kernel_rfl) (by kernel_rfl) (by kernel_rfl) (by exact fun _ _ _ h => h) (Or.inl ⟨by rfl,?_⟩) (by assumption) ?_; (rotate_left 1; (intro w hSw; (try dsimp only at hSw); go_simp); (try with_reducible rfl)); (try simp only [Act.put,List.setIfInBounds_toArray,List.set_cons_zero,List.set_cons_succ]))
    (refine wpAnyH_take (i:=2) (v:=?_) (by (simp only [List.getElem?_toArray,List.getElem?_cons_succ,List.getElem?_cons_zero]; rfl)) (by kernel_rfl) (by kernel_rfl) (by kernel_rfl) (by exact fun _ _ _ h => h) (Or.inl ⟨by rfl,?_⟩) (by assumption) ?_; (rotate_left 1; (intro w hSw; (try dsimp only at hSw); go_simp); (try with_reducible rfl)); (try simp only [Act.put,List.setIfInBounds_toArray,List.set_cons_zero,List.set_cons_succ]))
    (refine wpAnyH_take (i:=3) (v:=?_) (by (simp only [List.getElem?_toArray,List.getElem?_cons_succ,List.getElem?_cons_zero]; rfl)) (by kernel_rfl) (by kernel_rfl) (by kernel_rfl) (by exact fun _ _ _ h => h) (Or.inl ⟨by rfl,?_⟩) (by assumption) ?_; (rotate_left 1; (intro w hSw; (try dsimp only at hSw); go_simp); (try with_reducible rfl)); (try simp only [Act.put,List.setIfInBounds_toArray,List.set_cons_zero,List.set_cons_succ]))
    (refine wpAnyH_take (i:=4) (v:=?_) (by (simp only [List.getElem?_toArray,List.getElem?_cons_succ,List.getElem?_cons_zero]; rfl)) (by kernel_rfl) (by kernel_rfl) (by kernel_rfl) (by exact fun _ _ _ h => h) (Or.inl ⟨by rfl,?_⟩) (by assumption) ?_; (rotate_left 1; (intro w hSw; (try dsimp only at hSw); go_simp); (try with_reducible rfl)); (try simp only [Act.put,List.setIfInBounds_toArray,List.set_cons_zero,List.set_cons_succ]))
    (refine wpAnyH_take (i:=5) (v:=?_) (by (simp only [List.getElem?_toArray,List.getElem?_cons_succ,List.getElem?_cons_zero]; rfl)) (by kernel_rfl) (by kernel_rfl) (by kernel_rfl) (by exact fun _ _ _ h => h) (Or.inl ⟨by rfl,?_⟩) (by assumption) ?_; (rotate_left 1; (intro w hSw; (try dsimp only at hSw); go_simp); (try with_reducible rfl)); (try simp only [Act.put,List.setIfInBounds_toArray,List.set_cons_zero,List.set_cons_succ]))
    (refine wpAnyH_take (i:=6) (v:=?_) (by (simp only [List.getElem?_toArray,List.getElem?_cons_succ,List.getElem?_cons_zero]; rfl)) (by kernel_rfl) (by kernel_rfl) (by kernel_rfl) (by exact fun _ _ _ h => h) (Or.inl ⟨by rfl,?_⟩) (by assumption) ?_; (rotate_left 1; (intro w hSw; (try dsimp only at hSw); go_simp); (try with_reducible rfl)); (try simp only [Act.put,List.setIfInBounds_toArray,List.set_cons_zero,List.set_cons_succ]))
    refine wpAnyH_ready (rs:=[7]) (by kernel_rfl) (by simp) ?_
    refine AllReadyH.cons rfl (fun K hK => ?_) AllReadyH.nil
    have f2:=hbxD.thaw 2
    have zb:=hbxD.lt
    obtain ⟨m0,m1,m2,m3⟩ : _ ∧ _ ∧ _ ∧ _:=⟨hbxD.cell 0,hbxD.cell 1,hbxD.cell 2,hbxD.cell 3⟩
    simp only [List.getElem?_toArray,List.getElem?_cons_zero,List.getElem?_cons_succ] at m0 m1 m2 m3
    go_simp
    clear f2 zb m0 m1 m2 m3
    replace hbxD:=hbxD.poke 2 (.string ⟨x.toArray⟩)
    replace hsc : (w2.drew.setCell ⟨b2,2,none⟩ (.string ⟨x.toArray⟩)).cell? ⟨bw,1,none⟩ = some (.string ⟨x.toArray⟩) ∧ (w2.drew.setCell ⟨b2,2,none⟩ (.string ⟨x.toArray⟩)).cell? ⟨bw,2,none⟩ = some (.string ⟨y.toArray⟩):=⟨cell_off hsc.1 hne,cell_off hsc.2 hne⟩
    refine hK.out _ _ (hsc) (fun hHeld => ?_)
    clear hK K
    (try simp only [Act.put,List.setIfInBounds_toArray,List.set_cons_zero,List.set_cons_succ])
    (refine wpAnyH_take (i:=8) (v:=?_) (by (simp only [List.getElem?_toArray,List.getElem?_cons_succ,List.getElem?_cons_zero]; rfl)) (by kernel_rfl) (by kernel_rfl) (by kernel_rfl) (by exact fun _ _ _ h => h) (Or.inl ⟨by rfl,?_⟩) (by assumption) ?_; (rotate_left 1; (intro w hSw; (try dsimp only at hSw); go_simp); (try with_reducible rfl)); (try simp only [Act.put,List.setIfInBounds_toArray,List.set_cons_zero,List.set_cons_succ]))
    refine wpAnyH_ready (rs:=[9]) (by kernel_rfl) (by simp) ?_
    refine AllReadyH.cons rfl (fun K hK => ?_) AllReadyH.nil
    have f3:=hbxD.thaw 3
    have zb:=hbxD.lt
    obtain ⟨m0,m1,m2,m3⟩ : _ ∧ _ ∧ _ ∧ _:=⟨hbxD.cell 0,hbxD.cell 1,hbxD.cell 2,hbxD.cell 3⟩
    simp at m0 m1 m2 m3
    go_simp
    clear f3 zb m0 m1 m2 m3
    replace hsc : ((w2.drew.setCell ⟨b2,2,none⟩ (.string ⟨x.toArray⟩)).setCell ⟨b2,3,none⟩ (.string ⟨y.toArray⟩)).cell? ⟨bw,1,none⟩ = some (.string ⟨x.toArray⟩) ∧ ((w2.drew.setCell ⟨b2,2,none⟩ (.string ⟨x.toArray⟩)).setCell ⟨b2,3,none⟩ (.string ⟨y.toArray⟩)).cell? ⟨bw,2,none⟩ = some (.string ⟨y.toArray⟩):=⟨cell_off hsc.1 hne,cell_off hsc.2 hne⟩
    refine hK.out _ _ (hsc) (fun hHeld => ?_)
    clear hK K
    (try simp only [Act.put,List.setIfInBounds_toArray,List.set_cons_zero,List.set_cons_succ])
    refine wpAnyH_done (by kernel_rfl) ?_ _
    go_wp2_with fail
    exact GOOD.out _ _ HS2.out HOK.out (fun _ => HPU.out)
   ·have d3 : ((n : Int) == 3) = false:=beq_eq_false_iff_ne.2 (by omega)
    have HOK : Hid (okM t k = false):=Lib.hid (by rw [HOK0.out,← HN.out]; exact decide_eq_false hl)
    clear hl HOK0
    go_wp2_with fail
    exact BAD.out _ hst HOK.out
 have q1 : (w0 == [109,97,112]) = false:=beq_eq_false_iff_ne.2 hm
 cases fst with
 | true =>
  have HOK:=Lib.hid (okM_first HW0.out.symm (by rw [decide_eq_false hm,← HFS.out]; decide))
  clear hm
  go_wp2_with fail
  exact BAD.out _ hst HOK.out
 | false =>
 have HK0 : Hid (k ≠ 0):=Lib.hid (of_decide_eq_false HFS.out.symm)
 have HNM:=Lib.hid hm
 clear hm
 by_cases hr : w0 = roomW
 ·have q2 : (w0 == [114,111,111,109]) = true:=beq_iff_eq.2 hr
  have q3 : (w0 == [100,111,111,114]) = false:=by rw [hr]; decide
  have HR:=Lib.hid (HW0.out.symm.trans hr)
  have HOK0:=Lib.hid (okM_r HF.out HR.out HK0.out)
  clear hr
  by_cases hl : n = 3
  rotate_left
  ·have d3 : ((n : Int) == 3) = false:=beq_eq_false_iff_ne.2 (by omega)
   have HOK : Hid (okM t k = false):=Lib.hid (by rw [HOK0.out,← HN.out,decide_eq_false hl]; rfl)
   clear hl HOK0
   go_wp2_with fail
   exact BAD.out _ hst HOK.out
  have d3 : ((n : Int) == 3) = true:=by rw [hl]; rfl
  obtain ⟨m0,m1,m2,m3⟩ : _ ∧ _ ∧ _ ∧ _:=⟨hbx.cell 0,hbx.cell 1,hbx.cell 2,hbx.cell 3⟩
  simp only [List.getElem?_toArray,List.getElem?_cons_zero,List.getElem?_cons_succ] at m0 m1 m2 m3
  have zb:=hbx.lt
  by_cases hd : ds.length = 0
  rotate_left
  ·have d4 : ((ds.length : Int) == 0) = false:=beq_eq_false_iff_ne.2 (by omega)
   have HOK : Hid (okM t k = false):=Lib.hid (by rw [HOK0.out,HDL.out,decide_eq_false hd]; simp)
   clear hl hd HOK0
   go_wp2_with fail
   exact BAD.out _ hst HOK.out
  have d4 : ((ds.length : Int) == 0) = true:=by rw [hd]; rfl
  have HOK : Hid (okM t k = uncB ((lwM t k).getD 2 [])):=Lib.hid (by rw [HOK0.out,← HN.out,HDL.out,decide_eq_true hd,decide_eq_true hl]; simp)
  have c1:=HCL.out _ hkw'.out 1 (by omega)
  have c2:=HCL.out _ hkw'.out 2 (by omega)
  have hn1 : 1 < n:=by omega
  have hn2 : 2 < n:=by omega
  have HX1 : Hid (((lwM t k).getD 2 []).length ≤ 1000000):=Lib.hid (HWL.out _ (by rw [List.getD_eq_getElem?_getD,List.getElem?_eq_getElem (by rw [← HN.out]; omega)]; exact List.getElem_mem _))
  obtain ⟨x,hx⟩ : ∃ x,x = (lwM t k).getD 1 []:=⟨_,rfl⟩
  obtain ⟨y,hy⟩ : ∃ y,y = (lwM t k).getD 2 []:=⟨_,rfl⟩
  rw [← hx] at c1
  rw [← hy] at c2 HOK HX1
  have HX:=Lib.hid hx
  have HY:=Lib.hid hy
  clear hx hy hd HOK0 d3
  subst hl
  go_wp2_with fail
  refine (uncommas_any y _ HX1.out hEB.env).mono ?_
  rintro e w3 ⟨A7,c7,l7,rfl,hlo,hul,hll,hb⟩
  have HUL:=Lib.hid hul
  have hst3:=hst.trans (Stays.of_below (bs:=[b2]) hb hz)
  have hz3 : L ≤ w3.heap.size:=Nat.le_trans hz hb.size
  have hbx3:=hbx.below hb
  have hmo3:=hmo.below hb
  have hk3:=hkw'.out.below hb
  have hlo3 : LstO w3 L (A7,l7,c7):=own_weak hlo hz
  clear hul hst hbx hmo hlo c0 c1 c2 m0 m1 m2 m3 zb bwl hb
  obtain ⟨ux,hux⟩ : ∃ ux,ux = uncB y:=⟨_,rfl⟩
  rw [← hux] at HOK HUL ⊢
  clear hux
  have c1 : w3.cell? ⟨bw,1,none⟩ = some (.string ⟨x.toArray⟩):=by have h:=HCL.out _ hk3 1 hn1; rw [← HX.out] at h; exact h
  have bwl : bw < w3.heap.size:=hk3.lt
  go_upto_region 11 with (fail)
  clear c1 bwl
  have hbz : Below w3.heap.size w3 w3.drew:=below_drewN' (Below.refl _ _) 1
  replace hst3:=hst3.trans (Stays.of_below (bs:=[b2]) hbz hz3)
  replace hbx3:=hbx3.below hbz
  replace hmo3:=hmo3.below hbz
  replace hk3:=hk3.below hbz
  replace hlo3 : LstO w3.drew L (A7,l7,c7):=own_keep hlo3 hbz
  have hz3 : L ≤ w3.drew.heap.size:=Nat.le_trans hz3 hbz.size
  clear hbz
  have hsc : w3.drew.cell? ⟨bw,1,none⟩ = some (.string ⟨x.toArray⟩):=by have h:=HCL.out _ hk3 1 hn1; rw [← HX.out] at h; exact h
  obtain ⟨m0,m1,m2,m3⟩ : _ ∧ _ ∧ _ ∧ _:=⟨hbx3.cell 0,hbx3.cell 1,hbx3.cell 2,hbx3.cell 3⟩
  simp only [List.getElem?_toArray,List.getElem?_cons_zero,List.getElem?_cons_succ] at m0 m1 m2 m3
  have zb:=hbx3.lt

  refine wp_region_held_drew (S:=(fun w' => w'.cell? ⟨bw,1,none⟩ = some (.string ⟨x.toArray⟩))) (by kernel_rfl) (hsc) (fun hHeld => ?_)
  generalize w3.drew = X at *
  (refine wpAnyH_take (i:=0) (v:=?_) (by (simp only [List.getElem?_toArray,List.getElem?_cons_zero]; rfl)) (by kernel_rfl) (by kernel_rfl) (by kernel_rfl) (by exact fun _ _ _ h => h) (Or.inl ⟨by rfl,?_⟩) (by assumption) ?_; (rotate_left 1; (intro w hSw; (try dsimp only at hSw); go_simp); (try with_reducible rfl)); (try simp only [Act.put,List.setIfInBounds_toArray,List.set_cons_zero,List.set_cons_succ]))
  (refine wpAnyH_take (i:=2) (v:=?_) (by (simp only [List.getElem?_toArray,List.getElem?_cons_succ,List.getElem?_cons_zero]; rfl)) (by kernel_rfl) (by kernel_rfl) (by kernel_rfl) (by exact fun _ _ _ h => h) (Or.inl ⟨by rfl,?_⟩) (by assumption) ?_; (rotate_left 1; (intro w hSw; (try dsimp only at hSw); go_simp); (try with_reducible rfl)); (try simp only [Act.put,List.setIfInBounds_toArray,List.set_cons_zero,List.set_cons_succ]))
  (refine wpAnyH_take (i:=3) (v:=?_) (by (simp only [List.getElem?_toArray,List.getElem?_cons_succ,List.getElem?_cons_zero]; rfl)) (by kernel_rfl) (by kernel_rfl) (by kernel_rfl) (by exact fun _ _ _ h => h) (Or.inl ⟨by rfl,?_⟩) (by assumption) ?_; (rotate_left 1; (intro w hSw; (try dsimp only at hSw); go_simp); (try with_reducible rfl)); (try simp only [Act.put,List.setIfInBounds_toArray,List.set_cons_zero,List.set_cons_succ]))
  (refine wpAnyH_take (i:=4) (v:=?_) (by (simp only [List.getElem?_toArray,List.getElem?_cons_succ,List.getElem?_cons_zero]; rfl)) (by kernel_rfl) (by kernel_rfl) (by kernel_rfl) (by exact fun _ _ _ h => h) (Or.inl ⟨by rfl,?_⟩) (by assumption) ?_; (rotate_left 1; (intro w hSw; (try dsimp only at hSw); go_simp); (try with_reducible rfl)); (try simp only [Act.put,List.setIfInBounds_toArray,List.set_cons_zero,List.set_cons_succ]))
  (refine wpAnyH_take (i:=5) (v:=?_) (by (simp only [List.getElem?_toArray,List.getElem?_cons_succ,List.getElem?_cons_zero]; rfl)) (by kernel_rfl) (by kernel_rfl) (by kernel_rfl) (by exact fun _ _ _ h => h) (Or.inl ⟨by rfl,?_⟩) (by assumption) ?_; (rotate_left 1; (intro w hSw; (try dsimp only at hSw); go_simp); (try with_reducible rfl)); (try simp only [Act.put,List.setIfInBounds_toArray,List.set_cons_zero,List.set_cons_succ]))
  (refine wpAnyH_take (i:=6) (v:=?_) (by (simp only [List.getElem?_toArray,List.getElem?_cons_succ,List.getElem?_cons_zero]; rfl)) (by kernel_rfl) (by kernel_rfl) (by kernel_rfl) (by exact fun _ _ _ h => h) (Or.inl ⟨by rfl,?_⟩) (by assumption) ?_; (rotate_left 1; (intro w hSw; (try dsimp only at hSw); go_simp); (try with_reducible rfl)); (try simp only [Act.put,List.setIfInBounds_toArray,List.set_cons_zero,List.set_cons_succ]))
  refine wpAnyH_ready (rs:=[1,7]) (by kernel_rfl) (by simp) ?_
  refine AllReadyH.cons rfl (fun K hK => ?_) (AllReadyH.cons rfl (fun K hK => ?_) AllReadyH.nil)
  case refine_1 =>
   go_simp
   refine hK.out _ _ (hsc) (fun hHeld => ?_)
   clear hK K
   (try simp only [Act.put,List.setIfInBounds_toArray,List.set_cons_zero,List.set_cons_succ])
   refine wpAnyH_ready (rs:=[7]) (by kernel_rfl) (by simp) ?_
   refine AllReadyH.cons rfl (fun K hK => ?_) AllReadyH.nil
   go_simp
   have hnb : Blk (X.alloc (.cells #[.string ⟨x.toArray⟩,.slice A7 l7.length c7] 62)) X.heap.size 62 #[.string ⟨x.toArray⟩,.slice A7 l7.length c7]:=Blk.new _ _ _
   replace hst3:=hst3.alloc hz3 (.cells #[.string ⟨x.toArray⟩,.slice A7 l7.length c7] 62)
   replace hbx3:=hbx3.alloc (.cells #[.string ⟨x.toArray⟩,.slice A7 l7.length c7] 62)
   replace hmo3:=hmo3.alloc (.cells #[.string ⟨x.toArray⟩,.slice A7 l7.length c7] 62)
   replace hk3:=hk3.alloc (.cells #[.string ⟨x.toArray⟩,.slice A7 l7.length c7] 62)
   replace hlo3 : LstO (X.alloc (.cells #[.string ⟨x.toArray⟩,.slice A7 l7.length c7] 62)) L (A7,l7,c7):=hlo3.alloc _
   have hz4 : L ≤ (X.alloc (.cells #[.string ⟨x.toArray⟩,.slice A7 l7.length c7] 62)).heap.size:=by simp; omega
   clear m0 m1 m2 m3 zb
   obtain ⟨m0,m1,m2,m3⟩ : _ ∧ _ ∧ _ ∧ _:=⟨hbx3.cell 0,hbx3.cell 1,hbx3.cell 2,hbx3.cell 3⟩
   simp only [List.getElem?_toArray,List.getElem?_cons_zero,List.getElem?_cons_succ] at m0 m1 m2 m3
   have zb:=hbx3.lt
   replace hsc : (X.alloc (.cells #[.string ⟨x.toArray⟩,.slice A7 l7.length c7] 62)).cell? ⟨bw,1,none⟩ = some (.string ⟨x.toArray⟩):=by have h:=HCL.out _ hk3 1 hn1; rw [← HX.out] at h; exact h
   refine hK.out _ _ (hsc) (fun hHeld => ?_)
   clear hK K
   (try simp only [Act.put,List.setIfInBounds_toArray,List.set_cons_zero,List.set_cons_succ])
   refine wpAnyH_ready (rs:=[8]) (by kernel_rfl) (by simp) ?_
   refine AllReadyH.cons rfl (fun K hK => ?_) AllReadyH.nil
   refine step_app (lo:=L) (base:=L) (n:=rs.length) (xs:=rs.flatMap encR) _ rfl _ _ ty_roomz rfl hmo3.rooms rfl (Row.lit hnb (Nat.le_trans hz3 (Nat.le_refl _)) rfl : Row _ L 2 _ 1 _) rfl rfl (by omega) (by omega) hz4 ?_
   intro A8 c8 w8 hown8 hg8 _
   have hown8' : w8.ownsRow L 62 2 (.slice A8 (rs.length + 1) c8) (rs.length + 1) (rs.flatMap encR ++ [.string ⟨x.toArray⟩,.slice A7 l7.length c7]):=hown8
   have HPU : Hid (ux = true → MpA t b2 L (k + 1) (w8.setCell ⟨b2,0,none⟩ (.slice A8 (rs.length + 1) c8))):=Lib.hid (fun hu => MpA.pushR hb2 HR.out HX.out.symm ((HUL.out hu).trans (by rw [HY.out])) HST.out HGL.out hbx3 hmo3 HE1.out HE2.out hlo3 hg8 hown8')
   have HS8:=Lib.hid ((hst3.grown hg8 hz4 (fun q hq => (hmo3.rooms.lt q hq).1)).set (p:=⟨b2,0,none⟩) (.inl (by simp)) (.slice A8 (rs.length + 1) c8))
   have hbx8:=hbx3.otherOf hg8 (own_kindOf hmo3.rooms) (by decide)
   have hk8:=hk3.otherOf hg8 (own_kindOf hmo3.rooms) (by decide)
   clear m0 m1 m2 m3 zb hown8 hown8' hg8 hbx3 hmo3 hlo3 hst3 hk3 hnb
   obtain ⟨m0,m1,m2,m3⟩ : _ ∧ _ ∧ _ ∧ _:=⟨hbx8.cell 0,hbx8.cell 1,hbx8.cell 2,hbx8.cell 3⟩
   simp only [List.getElem?_toArray,List.getElem?_cons_zero,List.getElem?_cons_succ] at m0 m1 m2 m3
   have zb:=hbx8.lt
   have f0:=hbx8.thaw 0
   replace hsc : w8.cell? ⟨bw,1,none⟩ = some (.string ⟨x.toArray⟩):=by have h:=HCL.out _ hk8 1 hn1; rw [← HX.out] at h; exact h
   refine hK.out _ _ (hsc) (fun hHeld => ?_)
   clear hK K
   (try simp only [Act.put,List.setIfInBounds_toArray,List.set_cons_zero,List.set_cons_succ])
   (refine wpAnyH_take (i:=9) (v:=?_) (by (simp only [List.getElem?_toArray,List.getElem?_cons_succ,List.getElem?_cons_zero]; rfl)) (by kernel_rfl) (by kernel_rfl) (by kernel_rfl) (by exact fun _ _ _ h => h) (Or.inl ⟨by rfl,?_⟩) (by assumption) ?_; (rotate_left 1; (intro w hSw; (try dsimp only at hSw); go_simp); (try with_reducible rfl)); (try simp only [Act.put,List.setIfInBounds_toArray,List.set_cons_zero,List.set_cons_succ]))
   refine wpAnyH_ready (rs:=[10]) (by kernel_rfl) (by simp) ?_
   refine AllReadyH.cons rfl (fun K hK => ?_) AllReadyH.nil
   go_simp
   clear m0 m1 m2 m3 zb f0
   replace hsc : (w8.setCell ⟨b2,0,none⟩ (.slice A8 (rs.length + 1) c8)).cell? ⟨bw,1,none⟩ = some (.string ⟨x.toArray⟩):=cell_off hsc hne
   refine hK.out _ _ (hsc) (fun hHeld => ?_)
   clear hK K
   (try simp only [Act.put,List.setIfInBounds_toArray,List.set_cons_zero,List.set_cons_succ])
   refine wpAnyH_done (by kernel_rfl) ?_ _
   go_wp2_with fail
   exact GOOD.out _ _ HS8.out HOK.out HPU.out
  case refine_2 =>
   go_simp
   have hnb : Blk (X.alloc (.cells #[.string ⟨x.toArray⟩,.slice A7 l7.length c7] 62)) X.heap.size 62 #[.string ⟨x.toArray⟩,.slice A7 l7.length c7]:=Blk.new _ _ _
   replace hst3:=hst3.alloc hz3 (.cells #[.string ⟨x.toArray⟩,.slice A7 l7.length c7] 62)
   replace hbx3:=hbx3.alloc (.cells #[.string ⟨x.toArray⟩,.slice A7 l7.length c7] 62)
   replace hmo3:=hmo3.alloc (.cells #[.string ⟨x.toArray⟩,.slice A7 l7.length c7] 62)
   replace hk3:=hk3.alloc (.cells #[.string ⟨x.toArray⟩,.slice A7 l7.length c7] 62)
   replace hlo3 : LstO (X.alloc (.cells #[.string ⟨x.toArray⟩,.slice A7 l7.length c7] 62)) L (A7,l7,c7):=hlo3.alloc _
   have hz4 : L ≤ (X.alloc (.cells #[.string ⟨x.toArray⟩,.slice A7 l7.length c7] 62)).heap.size:=by simp; omega
   clear m0 m1 m2 m3 zb
   obtain ⟨m0,m1,m2,m3⟩ : _ ∧ _ ∧ _ ∧ _:=⟨hbx3.cell 0,hbx3.cell 1,hbx3.cell 2,hbx3.cell 3⟩
   simp only [List.getElem?_toArray,List.getElem?_cons_zero,List.getElem?_cons_succ] at m0 m1 m2 m3
   have zb:=hbx3.lt
   replace hsc : (X.alloc (.cells #[.string ⟨x.toArray⟩,.slice A7 l7.length c7] 62)).cell? ⟨bw,1,none⟩ = some (.string ⟨x.toArray⟩):=by have h:=HCL.out _ hk3 1 hn1; rw [← HX.out] at h; exact h
   refine hK.out _ _ (hsc) (fun hHeld => ?_)
   clear hK K
   (try simp only [Act.put,List.setIfInBounds_toArray,List.set_cons_zero,List.set_cons_succ])
   refine wpAnyH_ready (rs:=[1]) (by kernel_rfl) (by simp) ?_
   refine AllReadyH.cons rfl (fun K hK => ?_) AllReadyH.nil
   go_simp
   refine hK.out _ _ (hsc) (fun hHeld => ?_)
   clear hK K
   (try simp only [Act.put,List.setIfInBounds_toArray,List.set_cons_zero,List.set_cons_succ])
   refine wpAnyH_ready (rs:=[8]) (by kernel_rfl) (by simp) ?_
   refine AllReadyH.cons rfl (fun K hK => ?_) AllReadyH.nil
   refine step_app (lo:=L) (base:=L) (n:=rs.length) (xs:=rs.flatMap encR) _ rfl _ _ ty_roomz rfl hmo3.rooms rfl (Row.lit hnb (Nat.le_trans hz3 (Nat.le_refl _)) rfl : Row _ L 2 _ 1 _) rfl rfl (by omega) (by omega) hz4 ?_
   intro A8 c8 w8 hown8 hg8 _
   have hown8' : w8.ownsRow L 62 2 (.slice A8 (rs.length + 1) c8) (rs.length + 1) (rs.flatMap encR ++ [.string ⟨x.toArray⟩,.slice A7 l7.length c7]):=hown8
   have HPU : Hid (ux = true → MpA t b2 L (k + 1) (w8.setCell ⟨b2,0,none⟩ (.slice A8 (rs.length + 1) c8))):=Lib.hid (fun hu => MpA.pushR hb2 HR.out HX.out.symm ((HUL.out hu).trans (by rw [HY.out])) HST.out HGL.out hbx3 hmo3 HE1.out HE2.out hlo3 hg8 hown8')
   have HS8:=Lib.hid ((hst3.grown hg8 hz4 (fun q hq => (hmo3.rooms.lt q hq).1)).set (p:=⟨b2,0,none⟩) (.inl (by simp)) (.slice A8 (rs.length + 1) c8))
   have hbx8:=hbx3.otherOf hg8 (own_kindOf hmo3.rooms) (by decide)
   have hk8:=hk3.otherOf hg8 (own_kindOf hmo3.rooms) (by decide)
   clear m0 m1 m2 m3 zb hown8 hown8' hg8 hbx3 hmo3 hlo3 hst3 hk3 hnb
   obtain ⟨m0,m1,m2,m3⟩ : _ ∧ _ ∧ _ ∧ _:=⟨hbx8.cell 0,hbx8.cell 1,hbx8.cell 2,hbx8.cell 3⟩
   simp only [List.getElem?_toArray,List.getElem?_cons_zero,List.getElem?_cons_succ] at m0 m1 m2 m3
   have zb:=hbx8.lt
   have f0:=hbx8.thaw 0
   replace hsc : w8.cell? ⟨bw,1,none⟩ = some (.string ⟨x.toArray⟩):=by have h:=HCL.out _ hk8 1 hn1; rw [← HX.out] at h; exact h
   refine hK.out _ _ (hsc) (fun hHeld => ?_)
   clear hK K
   (try simp only [Act.put,List.setIfInBounds_toArray,List.set_cons_zero,List.set_cons_succ])
   (refine wpAnyH_take (i:=9) (v:=?_) (by (simp only [List.getElem?_toArray,List.getElem?_cons_succ,List.getElem?_cons_zero]; rfl)) (by kernel_rfl) (by kernel_rfl) (by kernel_rfl) (by exact fun _ _ _ h => h) (Or.inl ⟨by rfl,?_⟩) (by assumption) ?_; (rotate_left 1; (intro w hSw; (try dsimp only at hSw); go_simp); (try with_reducible rfl)); (try simp only [Act.put,List.setIfInBounds_toArray,List.set_cons_zero,List.set_cons_succ]))
   refine wpAnyH_ready (rs:=[10]) (by kernel_rfl) (by simp) ?_
   refine AllReadyH.cons rfl (fun K hK => ?_) AllReadyH.nil
   go_simp
   clear m0 m1 m2 m3 zb f0
   replace hsc : (w8.setCell ⟨b2,0,none⟩ (.slice A8 (rs.length + 1) c8)).cell? ⟨bw,1,none⟩ = some (.string ⟨x.toArray⟩):=cell_off hsc hne
   refine hK.out _ _ (hsc) (fun hHeld => ?_)
   clear hK K
   (try simp only [Act.put,List.setIfInBounds_toArray,List.set_cons_zero,List.set_cons_succ])
   refine wpAnyH_done (by kernel_rfl) ?_ _
   go_wp2_with fail
   exact GOOD.out _ _ HS8.out HOK.out HPU.out
 have q2 : (w0 == [114,111,111,109]) = false:=beq_eq_false_iff_ne.2 hr
 by_cases hd : w0 = doorW
 rotate_left
 ·have q3 : (w0 == [100,111,111,114]) = false:=beq_eq_false_iff_ne.2 hd
  have HOK:=Lib.hid (okM_n HW0.out.symm HNM.out hr hd)
  clear hr hd
  go_wp2_with fail
  exact BAD.out _ hst HOK.out
 have q3 : (w0 == [100,111,111,114]) = true:=beq_iff_eq.2 hd
 have HR:=Lib.hid (HW0.out.symm.trans hd)
 have HOK0:=Lib.hid (okM_d HF.out HR.out HK0.out)
 clear hd hr
 by_cases hl : n = 8
 rotate_left
 ·have d3 : ((n : Int) == 8) = false:=beq_eq_false_iff_ne.2 (by omega)
  have HOK : Hid (okM t k = false):=Lib.hid (by rw [HOK0.out,← HN.out,decide_eq_false hl]; rfl)
  clear hl HOK0
  go_wp2_with fail
  exact BAD.out _ hst HOK.out
 have HOK : Hid (okM t k = (numB ((lwM t k).getD 4 []) 9 && uncB ((lwM t k).getD 5 []) && uncB ((lwM t k).getD 6 []))):=Lib.hid (by rw [HOK0.out,← HN.out,decide_eq_true hl]; simp)
 have HXL : Hid (∀ j,j < 8 → ((lwM t k).getD j []).length ≤ 1000000):=Lib.hid (fun j hj => HWL.out _ (by rw [List.getD_eq_getElem?_getD,List.getElem?_eq_getElem (by rw [← HN.out]; omega)]; exact List.getElem_mem _))
 have HC8 : Hid (∀ W' : World,Blk W' bw 9 (strs (lwM t k)).toArray → ∀ j,j < 8 → W'.cell? ⟨bw,j,none⟩ = some (.string ⟨((lwM t k).getD j []).toArray⟩)):=Lib.hid (fun W' h j hj => HCL.out W' h j (by omega))
 clear HOK0 HCL
 subst hl
 obtain ⟨x1,hx1⟩ : ∃ x,x = (lwM t k).getD 1 []:=⟨_,rfl⟩
 have HX1:=Lib.hid hx1
 obtain ⟨x2,hx2⟩ : ∃ x,x = (lwM t k).getD 2 []:=⟨_,rfl⟩
 have HX2:=Lib.hid hx2
 obtain ⟨x3,hx3⟩ : ∃ x,x = (lwM t k).getD 3 []:=⟨_,rfl⟩
 have HX3:=Lib.hid hx3
 obtain ⟨x4,hx4⟩ : ∃ x,x = (lwM t k).getD 4 []:=⟨_,rfl⟩
 have HX4:=Lib.hid hx4
 obtain ⟨x5,hx5⟩ : ∃ x,x = (lwM t k).getD 5 []:=⟨_,rfl⟩
 have HX5:=Lib.hid hx5
 obtain ⟨x6,hx6⟩ : ∃ x,x = (lwM t k).getD 6 []:=⟨_,rfl⟩
 have HX6:=Lib.hid hx6
 obtain ⟨x7,hx7⟩ : ∃ x,x = (lwM t k).getD 7 []:=⟨_,rfl⟩
 have HX7:=Lib.hid hx7
 have c4:=HC8.out _ hkw'.out 4 (by omega)
 have hl4:=HXL.out 4 (by omega)
 have hl5:=HXL.out 5 (by omega)
 have hl6:=HXL.out 6 (by omega)
 rw [← hx4,← hx5,← hx6] at HOK
 rw [← hx4] at c4 hl4
 rw [← hx5] at hl5
 rw [← hx6] at hl6
 clear hx1 hx2 hx3 hx4 hx5 hx6 hx7
 go_wp2_with fail
 refine (int_any x4 9 _ (by decide) (by omega) hEB.env).mono ?_
 rintro e w3 ⟨rfl,hb⟩
 have hst3:=hst.trans (Stays.of_below (bs:=[b2]) hb hz)
 have hz3 : L ≤ w3.heap.size:=Nat.le_trans hz hb.size
 have hEB3:=hEB.below (hb.mono (by omega))
 have hbx3:=hbx.below hb
 have hmo3:=hmo.below hb
 have hk3:=hkw'.out.below hb
 clear hst hbx hmo c0 c4 bwl hEB hz hb
 obtain ⟨nv,hnv⟩ : ∃ nv,nv = intV x4 9:=⟨_,rfl⟩
 obtain ⟨nb,hnb⟩ : ∃ nb,nb = numB x4 9:=⟨_,rfl⟩
 rw [← hnb] at HOK
 rw [← hnb,← hnv]
 have HNV:=Lib.hid hnv
 have HNB:=Lib.hid hnb
 clear hnv hnb
 have c5 : w3.cell? ⟨bw,5,none⟩ = some (.string ⟨x5.toArray⟩):=by have h:=HC8.out _ hk3 5 (by omega); rw [← HX5.out] at h; exact h
 have bwl : bw < w3.heap.size:=hk3.lt
 go_wp2_with fail
 refine (uncommas_any x5 _ hl5 hEB3.env).mono ?_
 rintro e w4 ⟨A7,c7,l7,rfl,hlo,hul,-,hb⟩
 have HU5:=Lib.hid hul
 have hlo7 : LstO w4 L (A7,l7,c7):=own_weak hlo hz3
 have hst4:=hst3.trans (Stays.of_below (bs:=[b2]) hb hz3)
 have hz4 : L ≤ w4.heap.size:=Nat.le_trans hz3 hb.size
 have hEB4:=hEB3.below (hb.mono (by omega))
 have hbx4:=hbx3.below hb
 have hmo4:=hmo3.below hb
 have hk4:=hk3.below hb
 clear hul hlo hst3 hbx3 hmo3 hk3 hEB3 c5 bwl hz3 hb
 obtain ⟨u5,hu5⟩ : ∃ u,u = uncB x5:=⟨_,rfl⟩
 rw [← hu5] at HOK HU5 ⊢
 clear hu5
 have c6 : w4.cell? ⟨bw,6,none⟩ = some (.string ⟨x6.toArray⟩):=by have h:=HC8.out _ hk4 6 (by omega); rw [← HX6.out] at h; exact h
 have bwl : bw < w4.heap.size:=hk4.lt
 go_wp2_with fail
 refine (uncommas_any x6 _ hl6 hEB4.env).mono ?_
 rintro e w5 ⟨A8,c8,l8,rfl,hlo,hul,-,hb⟩
 have HU6:=Lib.hid hul
 have hlo8 : LstO w5 L (A8,l8,c8):=own_weak hlo hz4
 replace hlo7 : LstO w5 L (A7,l7,c7):=own_keep hlo7 hb
 have hst5:=hst4.trans (Stays.of_below (bs:=[b2]) hb hz4)
 have hz5 : L ≤ w5.heap.size:=Nat.le_trans hz4 hb.size
 have hbx5:=hbx4.below hb
 have hmo5:=hmo4.below hb
 have hk5:=hk4.below hb
 clear hul hlo hst4 hbx4 hmo4 hk4 hEB4 c6 bwl hz4 hb
 obtain ⟨u6,hu6⟩ : ∃ u,u = uncB x6:=⟨_,rfl⟩
 rw [← hu6] at HOK HU6 ⊢
 clear hu6
 go_upto_region 17 with (fail)
 have hbz : Below w5.heap.size w5 w5.drew:=below_drewN' (Below.refl _ _) 1
 replace hst5:=hst5.trans (Stays.of_below (bs:=[b2]) hbz hz5)
 replace hz5 : L ≤ w5.drew.heap.size:=Nat.le_trans hz5 hbz.size
 replace hbx5:=hbx5.below hbz
 replace hmo5:=hmo5.below hbz
 replace hk5:=hk5.below hbz
 replace hlo7 : LstO w5.drew L (A7,l7,c7):=own_keep hlo7 hbz
 replace hlo8 : LstO w5.drew L (A8,l8,c8):=own_keep hlo8 hbz
 clear hbz
 have HSC : Hid (∀ W' : World,Blk W' bw 9 (strs (lwM t k)).toArray → (fun w' : World => w'.cell? ⟨bw,1,none⟩ = some (.string ⟨x1.toArray⟩) ∧ w'.cell? ⟨bw,2,none⟩ = some (.string ⟨x2.toArray⟩) ∧ w'.cell? ⟨bw,3,none⟩ = some (.string ⟨x3.toArray⟩) ∧ w'.cell? ⟨bw,7,none⟩ = some (.string ⟨x7.toArray⟩)) W'):=Lib.hid (fun W' h => ⟨by have h:=HC8.out _ h 1 (by omega); rw [← HX1.out] at h; exact h,by have h:=HC8.out _ h 2 (by omega); rw [← HX2.out] at h; exact h,by have h:=HC8.out _ h 3 (by omega); rw [← HX3.out] at h; exact h,by have h:=HC8.out _ h 7 (by omega); rw [← HX7.out] at h; exact h⟩)
 have hsc:=HSC.out _ hk5
 simp only at hsc

 refine wp_region_held_drew (S:=(fun w' => w'.cell? ⟨bw,1,none⟩ = some (.string ⟨x1.toArray⟩) ∧ w'.cell? ⟨bw,2,none⟩ = some (.string ⟨x2.toArray⟩) ∧ w'.cell? ⟨bw,3,none⟩ = some (.string ⟨x3.toArray⟩) ∧ w'.cell? ⟨bw,7,none⟩ = some (.string ⟨x7.toArray⟩))) (by kernel_rfl) (hsc) (fun hHeld => ?_)
 generalize w5.drew = X at *
 have HDB0 : Hid (∀ b,(Value.slice D ds.length cd).ownBlock = some b → b < X.heap.size):=Lib.hid (fun b hb => (hmo5.doors.lt b hb).2)
 (refine wpAnyH_take (i:=0) (v:=?_) (by (simp only [List.getElem?_toArray,List.getElem?_cons_zero]; rfl)) (by kernel_rfl) (by kernel_rfl) (by kernel_rfl) (by exact fun _ _ _ h => h) (Or.inl ⟨by rfl,?_⟩) (by assumption) ?_; (rotate_left 1; (intro w hSw; (try dsimp only at hSw); go_simp); (try with_reducible rfl)); (try simp only [Act.put,List.setIfInBounds_toArray,List.set_cons_zero,List.set_cons_succ]))
 (refine wpAnyH_take (i:=1) (v:=?_) (by (simp only [List.getElem?_toArray,List.getElem?_cons_succ,List.getElem?_cons_zero]; rfl)) (by kernel_rfl) (by kernel_rfl) (by kernel_rfl) (by exact fun _ _ _ h => h) (Or.inl ⟨by rfl,?_⟩) (by assumption) ?_; (rotate_left 1; (intro w hSw; (try dsimp only at hSw); go_simp); (try with_reducible rfl)); (try simp only [Act.put,List.setIfInBounds_toArray,List.set_cons_zero,List.set_cons_succ]))
 (refine wpAnyH_take (i:=2) (v:=?_) (by (simp only [List.getElem?_toArray,List.getElem?_cons_succ,List.getElem?_cons_zero]; rfl)) (by kernel_rfl) (by kernel_rfl) (by kernel_rfl) (by exact fun _ _ _ h => h) (Or.inl ⟨by rfl,?_⟩) (by assumption) ?_; (rotate_left 1; (intro w hSw; (try dsimp only at hSw); go_simp); (try with_reducible rfl)); (try simp only [Act.put,List.setIfInBounds_toArray,List.set_cons_zero,List.set_cons_succ]))
 (refine wpAnyH_take (i:=3) (v:=?_) (by (simp only [List.getElem?_toArray,List.getElem?_cons_succ,List.getElem?_cons_zero]; rfl)) (by kernel_rfl) (by kernel_rfl) (by kernel_rfl) (by exact fun _ _ _ h => h) (Or.inl ⟨by rfl,?_⟩) (by assumption) ?_; (rotate_left 1; (intro w hSw; (try dsimp only at hSw); go_simp); (try with_reducible rfl)); (try simp only [Act.put,List.setIfInBounds_toArray,List.set_cons_zero,List.set_cons_succ]))
 (refine wpAnyH_take (i:=4) (v:=?_) (by (simp only [List.getElem?_toArray,List.getElem?_cons_succ,List.getElem?_cons_zero]; rfl)) (by kernel_rfl) (by kernel_rfl) (by kernel_rfl) (by exact fun _ _ _ h => h) (Or.inl ⟨by rfl,?_⟩) (by assumption) ?_; (rotate_left 1; (intro w hSw; (try dsimp only at hSw); go_simp); (try with_reducible rfl)); (try simp only [Act.put,List.setIfInBounds_toArray,List.set_cons_zero,List.set_cons_succ]))
 (refine wpAnyH_take (i:=5) (v:=?_) (by (simp only [List.getElem?_toArray,List.getElem?_cons_succ,List.getElem?_cons_zero]; rfl)) (by kernel_rfl) (by kernel_rfl) (by kernel_rfl) (by exact fun _ _ _ h => h) (Or.inl ⟨by rfl,?_⟩) (by assumption) ?_; (rotate_left 1; (intro w hSw; (try dsimp only at hSw); go_simp); (try with_reducible rfl)); (try simp only [Act.put,List.setIfInBounds_toArray,List.set_cons_zero,List.set_cons_succ]))
 (refine wpAnyH_take (i:=6) (v:=?_) (by (simp only [List.getElem?_toArray,List.getElem?_cons_succ,List.getElem?_cons_zero]; rfl)) (by kernel_rfl) (by kernel_rfl) (by kernel_rfl) (by exact fun _ _ _ h => h) (Or.inl ⟨by rfl,?_⟩) (by assumption) ?_; (rotate_left 1; (intro w hSw; (try dsimp only at hSw); go_simp); (try with_reducible rfl)); (try simp only [Act.put,List.setIfInBounds_toArray,List.set_cons_zero,List.set_cons_succ]))
 (refine wpAnyH_take (i:=7) (v:=?_) (by (simp only [List.getElem?_toArray,List.getElem?_cons_succ,List.getElem?_cons_zero]; rfl)) (by kernel_rfl) (by kernel_rfl) (by kernel_rfl) (by exact fun _ _ _ h => h) (Or.inl ⟨by rfl,?_⟩) (by assumption) ?_; (rotate_left 1; (intro w hSw; (try dsimp only at hSw); go_simp); (try with_reducible rfl)); (try simp only [Act.put,List.setIfInBounds_toArray,List.set_cons_zero,List.set_cons_succ]))
 (refine wpAnyH_take (i:=8) (v:=?_) (by (simp only [List.getElem?_toArray,List.getElem?_cons_succ,List.getElem?_cons_zero]; rfl)) (by kernel_rfl) (by kernel_rfl) (by kernel_rfl) (by exact fun _ _ _ h => h) (Or.inl ⟨by rfl,?_⟩) (by assumption) ?_; (rotate_left 1; (intro w hSw; (try dsimp only at hSw); go_simp); (try with_reducible rfl)); (try simp only [Act.put,List.setIfInBounds_toArray,List.set_cons_zero,List.set_cons_succ]))
 (refine wpAnyH_take (i:=9) (v:=?_) (by (simp only [List.getElem?_toArray,List.getElem?_cons_succ,List.getElem?_cons_zero]; rfl)) (by kernel_rfl) (by kernel_rfl) (by kernel_rfl) (by exact fun _ _ _ h => h) (Or.inl ⟨by rfl,?_⟩) (by assumption) ?_; (rotate_left 1; (intro w hSw; (try dsimp only at hSw); go_simp); (try with_reducible rfl)); (try simp only [Act.put,List.setIfInBounds_toArray,List.set_cons_zero,List.set_cons_succ]))
 (refine wpAnyH_take (i:=10) (v:=?_) (by (simp only [List.getElem?_toArray,List.getElem?_cons_succ,List.getElem?_cons_zero]; rfl)) (by kernel_rfl) (by kernel_rfl) (by kernel_rfl) (by exact fun _ _ _ h => h) (Or.inl ⟨by rfl,?_⟩) (by assumption) ?_; (rotate_left 1; (intro w hSw; (try dsimp only at hSw); go_simp); (try with_reducible rfl)); (try simp only [Act.put,List.setIfInBounds_toArray,List.set_cons_zero,List.set_cons_succ]))
 (refine wpAnyH_take (i:=11) (v:=?_) (by (simp only [List.getElem?_toArray,List.getElem?_cons_succ,List.getElem?_cons_zero]; rfl)) (by kernel_rfl) (by kernel_rfl) (by kernel_rfl) (by exact fun _ _ _ h => h) (Or.inl ⟨by rfl,?_⟩) (by assumption) ?_; (rotate_left 1; (intro w hSw; (try dsimp only at hSw); go_simp); (try with_reducible rfl)); (try simp only [Act.put,List.setIfInBounds_toArray,List.set_cons_zero,List.set_cons_succ]))
 (refine wpAnyH_take (i:=12) (v:=?_) (by (simp only [List.getElem?_toArray,List.getElem?_cons_succ,List.getElem?_cons_zero]; rfl)) (by kernel_rfl) (by kernel_rfl) (by kernel_rfl) (by exact fun _ _ _ h => h) (Or.inl ⟨by rfl,?_⟩) (by assumption) ?_; (rotate_left 1; (intro w hSw; (try dsimp only at hSw); go_simp); (try with_reducible rfl)); (try simp only [Act.put,List.setIfInBounds_toArray,List.set_cons_zero,List.set_cons_succ]))
 (refine wpAnyH_take (i:=13) (v:=?_) (by (simp only [List.getElem?_toArray,List.getElem?_cons_succ,List.getElem?_cons_zero]; rfl)) (by kernel_rfl) (by kernel_rfl) (by kernel_rfl) (by exact fun _ _ _ h => h) (Or.inl ⟨by rfl,?_⟩) (by assumption) ?_; (rotate_left 1; (intro w hSw; (try dsimp only at hSw); go_simp); (try with_reducible rfl)); (try simp only [Act.put,List.setIfInBounds_toArray,List.set_cons_zero,List.set_cons_succ]))
 (refine wpAnyH_take (i:=14) (v:=?_) (by (simp only [List.getElem?_toArray,List.getElem?_cons_succ,List.getElem?_cons_zero]; rfl)) (by kernel_rfl) (by kernel_rfl) (by kernel_rfl) (by exact fun _ _ _ h => h) (Or.inl ⟨by rfl,?_⟩) (by assumption) ?_; (rotate_left 1; (intro w hSw; (try dsimp only at hSw); go_simp); (try with_reducible rfl)); (try simp only [Act.put,List.setIfInBounds_toArray,List.set_cons_zero,List.set_cons_succ]))
 (refine wpAnyH_take (i:=15) (v:=?_) (by (simp only [List.getElem?_toArray,List.getElem?_cons_succ,List.getElem?_cons_zero]; rfl)) (by kernel_rfl) (by kernel_rfl) (by kernel_rfl) (by exact fun _ _ _ h => h) (Or.inl ⟨by rfl,?_⟩) (by assumption) ?_; (rotate_left 1; (intro w hSw; (try dsimp only at hSw); go_simp); (try with_reducible rfl)); (try simp only [Act.put,List.setIfInBounds_toArray,List.set_cons_zero,List.set_cons_succ]))
 refine wpAnyH_ready (rs:=[16]) (by kernel_rfl) (by simp) ?_
 refine AllReadyH.cons rfl (fun K hK => ?_) AllReadyH.nil
 go_simp
 have hsc:=HSC.out _ (hk5.alloc (.cells #[.string ⟨#[]⟩,.string ⟨#[]⟩,.string ⟨#[]⟩,.int .i64 0,.slice none 0 0,.slice none 0 0,.string ⟨#[]⟩] 66))
 simp only at hsc
 refine hK.out _ _ (hsc) (fun hHeld => ?_)
 clear hK K
 (try simp only [Act.put,List.setIfInBounds_toArray,List.set_cons_zero,List.set_cons_succ])
 refine wpAnyH_ready (rs:=[17]) (by kernel_rfl) (by simp) ?_
 refine AllReadyH.cons rfl (fun K hK => ?_) AllReadyH.nil
 go_simp
 have hsc:=HSC.out _ (hk5.alloc (.cells #[.string ⟨x1.toArray⟩,.string ⟨x2.toArray⟩,.string ⟨x3.toArray⟩,.int .i64 nv,.slice A7 l7.length c7,.slice A8 l8.length c8,.string ⟨x7.toArray⟩] 66))
 simp only at hsc
 refine hK.out _ _ (hsc) (fun hHeld => ?_)
 clear hK K
 (try simp only [Act.put,List.setIfInBounds_toArray,List.set_cons_zero,List.set_cons_succ])
 refine wpAnyH_done (by kernel_rfl) ?_ _
 have hdb : Blk (X.alloc (.cells #[.string ⟨x1.toArray⟩,.string ⟨x2.toArray⟩,.string ⟨x3.toArray⟩,.int .i64 nv,.slice A7 l7.length c7,.slice A8 l8.length c8,.string ⟨x7.toArray⟩] 66)) X.heap.size 66 #[.string ⟨x1.toArray⟩,.string ⟨x2.toArray⟩,.string ⟨x3.toArray⟩,.int .i64 nv,.slice A7 l7.length c7,.slice A8 l8.length c8,.string ⟨x7.toArray⟩]:=Blk.new _ _ _
 replace hst5:=hst5.alloc hz5 (.cells #[.string ⟨x1.toArray⟩,.string ⟨x2.toArray⟩,.string ⟨x3.toArray⟩,.int .i64 nv,.slice A7 l7.length c7,.slice A8 l8.length c8,.string ⟨x7.toArray⟩] 66)
 replace hbx5:=hbx5.alloc (.cells #[.string ⟨x1.toArray⟩,.string ⟨x2.toArray⟩,.string ⟨x3.toArray⟩,.int .i64 nv,.slice A7 l7.length c7,.slice A8 l8.length c8,.string ⟨x7.toArray⟩] 66)
 replace hmo5:=hmo5.alloc (.cells #[.string ⟨x1.toArray⟩,.string ⟨x2.toArray⟩,.string ⟨x3.toArray⟩,.int .i64 nv,.slice A7 l7.length c7,.slice A8 l8.length c8,.string ⟨x7.toArray⟩] 66)
 replace hlo7 : LstO (X.alloc (.cells #[.string ⟨x1.toArray⟩,.string ⟨x2.toArray⟩,.string ⟨x3.toArray⟩,.int .i64 nv,.slice A7 l7.length c7,.slice A8 l8.length c8,.string ⟨x7.toArray⟩] 66)) L (A7,l7,c7):=hlo7.alloc _
 replace hlo8 : LstO (X.alloc (.cells #[.string ⟨x1.toArray⟩,.string ⟨x2.toArray⟩,.string ⟨x3.toArray⟩,.int .i64 nv,.slice A7 l7.length c7,.slice A8 l8.length c8,.string ⟨x7.toArray⟩] 66)) L (A8,l8,c8):=hlo8.alloc _
 have HDO : Hid (∀ b,(Value.slice D ds.length cd).ownBlock = some b → b ≠ X.heap.size):=Lib.hid (fun b hb => by have h2:=HDB0.out b hb; omega)
 have hz6 : L ≤ (X.alloc (.cells #[.string ⟨x1.toArray⟩,.string ⟨x2.toArray⟩,.string ⟨x3.toArray⟩,.int .i64 nv,.slice A7 l7.length c7,.slice A8 l8.length c8,.string ⟨x7.toArray⟩] 66)).heap.size:=by simp; omega
 clear hsc hHeld hk5
 have hdne : b2 ≠ X.heap.size:=by omega
 have hdL : L ≤ X.heap.size:=hz5
 generalize X.alloc (.cells #[.string ⟨x1.toArray⟩,.string ⟨x2.toArray⟩,.string ⟨x3.toArray⟩,.int .i64 nv,.slice A7 l7.length c7,.slice A8 l8.length c8,.string ⟨x7.toArray⟩] 66) = Y at *
 generalize X.heap.size = db at *
 by_cases h7 : x7 = [45]
 ·have HT7 : Hid (([] : List UInt8) = if x7 = [45] then [] else x7):=Lib.hid (by rw [if_pos h7])
  have d7 : (x7 == [45]) = true:=beq_iff_eq.2 h7
  clear h7
  have k6:=hdb.w7.2.2.2.2.2.2
  have f6:=hdb.thaw 6
  have zd:=hdb.lt
  have hdb7 : Blk (Y.setCell ⟨db,6,none⟩ (.string ⟨#[]⟩)) db 66 #[.string ⟨x1.toArray⟩,.string ⟨x2.toArray⟩,.string ⟨x3.toArray⟩,.int .i64 nv,.slice A7 l7.length c7,.slice A8 l8.length c8,.string ⟨#[]⟩]:=by simpa using hdb.poke 6 (.string ⟨#[]⟩)
  have hst7:=hst5.set (p:=⟨db,6,none⟩) (.inr hdL) (.string ⟨#[]⟩)
  have hbx7:=hbx5.past db 6 (.string ⟨#[]⟩) hdne
  have hmo7:=hmo5.setDb hdb HDO.out 6 (.string ⟨#[]⟩)
  have hlo77 : LstO (Y.setCell ⟨db,6,none⟩ (.string ⟨#[]⟩)) L (A7,l7,c7):=own_past hlo7 hdb (by decide) 6 _
  have hlo87 : LstO (Y.setCell ⟨db,6,none⟩ (.string ⟨#[]⟩)) L (A8,l8,c8):=own_past hlo8 hdb (by decide) 6 _
  have hz7 : L ≤ (Y.setCell ⟨db,6,none⟩ (.string ⟨#[]⟩)).heap.size:=by simpa [World.setCell] using hz6
  clear hdb hst5 hbx5 hmo5 hlo7 hlo8 hz6
  go_upto_region 20 with (fail)
  generalize Y.setCell ⟨db,6,none⟩ (.string ⟨#[]⟩) = Z at *
  clear k6 f6 zd
  obtain ⟨m0,m1,m2,m3⟩ : _ ∧ _ ∧ _ ∧ _:=⟨hbx7.cell 0,hbx7.cell 1,hbx7.cell 2,hbx7.cell 3⟩
  simp only [List.getElem?_toArray,List.getElem?_cons_zero,List.getElem?_cons_succ] at m0 m1 m2 m3
  have zb:=hbx7.lt
  obtain ⟨k0,k1,k2,k3,k4,k5,k6⟩:=hdb7.w7
  have zd:=hdb7.lt
  have hnb : Blk (Z.alloc (.cells #[.string ⟨x1.toArray⟩,.string ⟨x2.toArray⟩,.string ⟨x3.toArray⟩,.int .i64 nv,.slice A7 l7.length c7,.slice A8 l8.length c8,.string ⟨#[]⟩] 66)) Z.heap.size 66 #[.string ⟨x1.toArray⟩,.string ⟨x2.toArray⟩,.string ⟨x3.toArray⟩,.int .i64 nv,.slice A7 l7.length c7,.slice A8 l8.length c8,.string ⟨#[]⟩]:=Blk.new _ _ _
  replace hst7:=hst7.alloc hz7 (.cells #[.string ⟨x1.toArray⟩,.string ⟨x2.toArray⟩,.string ⟨x3.toArray⟩,.int .i64 nv,.slice A7 l7.length c7,.slice A8 l8.length c8,.string ⟨#[]⟩] 66)
  replace hbx7:=hbx7.alloc (.cells #[.string ⟨x1.toArray⟩,.string ⟨x2.toArray⟩,.string ⟨x3.toArray⟩,.int .i64 nv,.slice A7 l7.length c7,.slice A8 l8.length c8,.string ⟨#[]⟩] 66)
  replace hmo7:=hmo7.alloc (.cells #[.string ⟨x1.toArray⟩,.string ⟨x2.toArray⟩,.string ⟨x3.toArray⟩,.int .i64 nv,.slice A7 l7.length c7,.slice A8 l8.length c8,.string ⟨#[]⟩] 66)
  replace hlo77 : LstO (Z.alloc (.cells #[.string ⟨x1.toArray⟩,.string ⟨x2.toArray⟩,.string ⟨x3.toArray⟩,.int .i64 nv,.slice A7 l7.length c7,.slice A8 l8.length c8,.string ⟨#[]⟩] 66)) L (A7,l7,c7):=hlo77.alloc _
  replace hlo87 : LstO (Z.alloc (.cells #[.string ⟨x1.toArray⟩,.string ⟨x2.toArray⟩,.string ⟨x3.toArray⟩,.int .i64 nv,.slice A7 l7.length c7,.slice A8 l8.length c8,.string ⟨#[]⟩] 66)) L (A8,l8,c8):=hlo87.alloc _
  have hz8 : L ≤ (Z.alloc (.cells #[.string ⟨x1.toArray⟩,.string ⟨x2.toArray⟩,.string ⟨x3.toArray⟩,.int .i64 nv,.slice A7 l7.length c7,.slice A8 l8.length c8,.string ⟨#[]⟩] 66)).heap.size:=by simp; omega
  go_wp2_with (at_builtin; go_must (refine wpList_app (lo:=L) (base:=L) (n:=ds.length) (xs:=ds.flatMap encD) _ _ rfl _ _ ty_doorm rfl hmo7.doors rfl (Row.lit hnb hz7 rfl : Row _ L 7 _ 1 _) rfl rfl (by omega) (by omega) hz8 ?_))
  intro A9 c9 w8 hown8 hg8 _
  have hown8' : w8.ownsRow L 66 7 (.slice A9 (ds.length + 1) c9) (ds.length + 1) (ds.flatMap encD ++ [.string ⟨x1.toArray⟩,.string ⟨x2.toArray⟩,.string ⟨x3.toArray⟩,.int .i64 nv,.slice A7 l7.length c7,.slice A8 l8.length c8,.string ⟨(([] : List UInt8)).toArray⟩]):=hown8
  have HPU : Hid ((nb && u5 && u6) = true → MpA t b2 L (k + 1) (w8.setCell ⟨b2,1,none⟩ (.slice A9 (ds.length + 1) c9))):=Lib.hid (fun hu => by
   rw [Bool.and_eq_true,Bool.and_eq_true] at hu
   exact MpA.pushD hb2 HR.out HX1.out.symm HX2.out.symm HX3.out.symm (HNV.out.trans ((intV_num (HNB.out.symm.trans hu.1.1)).trans (by rw [HX4.out]))) ((HU5.out hu.1.2).trans (by rw [HX5.out])) ((HU6.out hu.2).trans (by rw [HX6.out])) HX7.out.symm HT7.out HST.out HGL.out hbx7 hmo7 HE1.out HE2.out hlo77 hlo87 hg8 hown8')
  have HS8:=Lib.hid ((hst7.grown hg8 hz8 (fun q hq => (hmo7.doors.lt q hq).1)).set (p:=⟨b2,1,none⟩) (.inl (by simp)) (.slice A9 (ds.length + 1) c9))
  have hbx8:=hbx7.otherOf hg8 (own_kindOf hmo7.doors) (by decide)
  clear m0 m1 m2 m3 zb k0 k1 k2 k3 k4 k5 k6 zd hown8 hown8' hg8 hbx7 hmo7 hlo77 hlo87 hst7 hnb
  obtain ⟨m0,m1,m2,m3⟩ : _ ∧ _ ∧ _ ∧ _:=⟨hbx8.cell 0,hbx8.cell 1,hbx8.cell 2,hbx8.cell 3⟩
  simp only [List.getElem?_toArray,List.getElem?_cons_zero,List.getElem?_cons_succ] at m0 m1 m2 m3
  have zb:=hbx8.lt
  have f1:=hbx8.thaw 1
  cases nb with
  | false =>
   go_wp2_with fail
   exact GOOD.out _ _ HS8.out HOK.out HPU.out
  | true =>
   cases u5 with
   | false =>
    go_wp2_with fail
    exact GOOD.out _ _ HS8.out HOK.out HPU.out
   | true =>
    go_wp2_with fail
    exact GOOD.out _ _ HS8.out (by rw [HOK.out]; rfl) HPU.out
 ·have HT7 : Hid (x7 = if x7 = [45] then [] else x7):=Lib.hid (by rw [if_neg h7])
  have d7 : (x7 == [45]) = false:=beq_eq_false_iff_ne.2 h7
  clear h7
  have k6:=hdb.w7.2.2.2.2.2.2
  have f6:=hdb.thaw 6
  have zd:=hdb.lt
  go_upto_region 20 with (fail)
  have hdb7:=hdb
  have hst7:=hst5
  have hbx7:=hbx5
  have hmo7:=hmo5
  have hlo77:=hlo7
  have hlo87:=hlo8
  have hz7:=hz6
  clear hdb hst5 hbx5 hmo5 hlo7 hlo8 hz6
  generalize Y = Z at *
  clear k6 f6 zd
  obtain ⟨m0,m1,m2,m3⟩ : _ ∧ _ ∧ _ ∧ _:=⟨hbx7.cell 0,hbx7.cell 1,hbx7.cell 2,hbx7.cell 3⟩
  simp only [List.getElem?_toArray,List.getElem?_cons_zero,List.getElem?_cons_succ] at m0 m1 m2 m3
  have zb:=hbx7.lt
  obtain ⟨k0,k1,k2,k3,k4,k5,k6⟩:=hdb7.w7
  have zd:=hdb7.lt
  have hnb : Blk (Z.alloc (.cells #[.string ⟨x1.toArray⟩,.string ⟨x2.toArray⟩,.string ⟨x3.toArray⟩,.int .i64 nv,.slice A7 l7.length c7,.slice A8 l8.length c8,.string ⟨x7.toArray⟩] 66)) Z.heap.size 66 #[.string ⟨x1.toArray⟩,.string ⟨x2.toArray⟩,.string ⟨x3.toArray⟩,.int .i64 nv,.slice A7 l7.length c7,.slice A8 l8.length c8,.string ⟨x7.toArray⟩]:=Blk.new _ _ _
  replace hst7:=hst7.alloc hz7 (.cells #[.string ⟨x1.toArray⟩,.string ⟨x2.toArray⟩,.string ⟨x3.toArray⟩,.int .i64 nv,.slice A7 l7.length c7,.slice A8 l8.length c8,.string ⟨x7.toArray⟩] 66)
  replace hbx7:=hbx7.alloc (.cells #[.string ⟨x1.toArray⟩,.string ⟨x2.toArray⟩,.string ⟨x3.toArray⟩,.int .i64 nv,.slice A7 l7.length c7,.slice A8 l8.length c8,.string ⟨x7.toArray⟩] 66)
  replace hmo7:=hmo7.alloc (.cells #[.string ⟨x1.toArray⟩,.string ⟨x2.toArray⟩,.string ⟨x3.toArray⟩,.int .i64 nv,.slice A7 l7.length c7,.slice A8 l8.length c8,.string ⟨x7.toArray⟩] 66)
  replace hlo77 : LstO (Z.alloc (.cells #[.string ⟨x1.toArray⟩,.string ⟨x2.toArray⟩,.string ⟨x3.toArray⟩,.int .i64 nv,.slice A7 l7.length c7,.slice A8 l8.length c8,.string ⟨x7.toArray⟩] 66)) L (A7,l7,c7):=hlo77.alloc _
  replace hlo87 : LstO (Z.alloc (.cells #[.string ⟨x1.toArray⟩,.string ⟨x2.toArray⟩,.string ⟨x3.toArray⟩,.int .i64 nv,.slice A7 l7.length c7,.slice A8 l8.length c8,.string ⟨x7.toArray⟩] 66)) L (A8,l8,c8):=hlo87.alloc _
  have hz8 : L ≤ (Z.alloc (.cells #[.string ⟨x1.toArray⟩,.string ⟨x2.toArray⟩,.string ⟨x3.toArray⟩,.int .i64 nv,.slice A7 l7.length c7,.slice A8 l8.length c8,.string ⟨x7.toArray⟩] 66)).heap.size:=by simp; omega
  go_wp2_with (at_builtin; go_must (refine wpList_app (lo:=L) (base:=L) (n:=ds.length) (xs:=ds.flatMap encD) _ _ rfl _ _ ty_doorm rfl hmo7.doors rfl (Row.lit hnb hz7 rfl : Row _ L 7 _ 1 _) rfl rfl (by omega) (by omega) hz8 ?_))
  intro A9 c9 w8 hown8 hg8 _
  have hown8' : w8.ownsRow L 66 7 (.slice A9 (ds.length + 1) c9) (ds.length + 1) (ds.flatMap encD ++ [.string ⟨x1.toArray⟩,.string ⟨x2.toArray⟩,.string ⟨x3.toArray⟩,.int .i64 nv,.slice A7 l7.length c7,.slice A8 l8.length c8,.string ⟨(x7).toArray⟩]):=hown8
  have HPU : Hid ((nb && u5 && u6) = true → MpA t b2 L (k + 1) (w8.setCell ⟨b2,1,none⟩ (.slice A9 (ds.length + 1) c9))):=Lib.hid (fun hu => by
   rw [Bool.and_eq_true,Bool.and_eq_true] at hu
   exact MpA.pushD hb2 HR.out HX1.out.symm HX2.out.symm HX3.out.symm (HNV.out.trans ((intV_num (HNB.out.symm.trans hu.1.1)).trans (by rw [HX4.out]))) ((HU5.out hu.1.2).trans (by rw [HX5.out])) ((HU6.out hu.2).trans (by rw [HX6.out])) HX7.out.symm HT7.out HST.out HGL.out hbx7 hmo7 HE1.out HE2.out hlo77 hlo87 hg8 hown8')
  have HS8:=Lib.hid ((hst7.grown hg8 hz8 (fun q hq => (hmo7.doors.lt q hq).1)).set (p:=⟨b2,1,none⟩) (.inl (by simp)) (.slice A9 (ds.length + 1) c9))
  have hbx8:=hbx7.otherOf hg8 (own_kindOf hmo7.doors) (by decide)
  clear m0 m1 m2 m3 zb k0 k1 k2 k3 k4 k5 k6 zd hown8 hown8' hg8 hbx7 hmo7 hlo77 hlo87 hst7 hnb
  obtain ⟨m0,m1,m2,m3⟩ : _ ∧ _ ∧ _ ∧ _:=⟨hbx8.cell 0,hbx8.cell 1,hbx8.cell 2,hbx8.cell 3⟩
  simp only [List.getElem?_toArray,List.getElem?_cons_zero,List.getElem?_cons_succ] at m0 m1 m2 m3
  have zb:=hbx8.lt
  have f1:=hbx8.thaw 1
  cases nb with
  | false =>
   go_wp2_with fail
   exact GOOD.out _ _ HS8.out HOK.out HPU.out
  | true =>
   cases u5 with
   | false =>
    go_wp2_with fail
    exact GOOD.out _ _ HS8.out HOK.out HPU.out
   | true =>
    go_wp2_with fail
    exact GOOD.out _ _ HS8.out (by rw [HOK.out]; rfl) HPU.out
end Go.Proofs.YtijdbbnnkogkjaaGreatDoor
/- How great a map that is read can be: by the text's line feeds and commas. -/
namespace Go.Proofs.YtijdbbnnkogkjaaGreatDoor
set_option linter.unusedVariables false
set_option linter.unusedSimpArgs false
open Go.RowKit Go.Sort

theorem cutAt_cnt (c b : UInt8) (l : List UInt8) : ∀ x ∈ cutAt c l,x.count b ≤ l.count b:=by
 induction l with
 | nil => intro x hx; simp [cutAt] at hx; subst hx; simp
 | cons a l ih =>
  intro x hx
  have hle : l.count b ≤ (a :: l).count b:=by rw [List.count_cons]; omega
  by_cases ha : a = c
  ·have e : cutAt c (a :: l) = [] :: cutAt c l:=by simp [cutAt,ha]
   rw [e,List.mem_cons] at hx
   rcases hx with rfl | hx
   ·simp
   ·exact Nat.le_trans (ih x hx) hle
  ·cases hc : cutAt c l with
   | nil => exact absurd hc (cutAt_ne c l)
   | cons y ys =>
    have e : cutAt c (a :: l) = (a :: y) :: ys:=by simp [cutAt,ha,hc]
    rw [e,List.mem_cons] at hx
    rcases hx with rfl | hx
    ·have:=ih y (by rw [hc]; simp)
     rw [List.count_cons,List.count_cons]; omega
    ·exact Nat.le_trans (ih x (by rw [hc]; simp [hx])) hle
theorem trim_cnt (t : List UInt8) (b : UInt8) : (Lib.trimSuffix t [10]).count b ≤ t.count b:=by
 by_cases h : t.getLast? = some 10
 ·obtain ⟨a,rfl⟩ : ∃ a,t = a ++ [10]:=by
   rw [List.getLast?_eq_some_iff] at h
   obtain ⟨a,e⟩:=h
   exact ⟨a,e⟩
  rw [trimNl_yes,List.count_append]; omega
 ·rw [trimNl_no h]; exact Nat.le_refl _
theorem lines_cnt (t : List UInt8) : (linesL t).length ≤ t.count 10 + 1 ∧ ∀ b,∀ x ∈ linesL t,x.count b ≤ t.count b:=by
 unfold linesL
 by_cases h : t.isEmpty = true
 ·rw [if_pos h]; simp
 ·rw [if_neg h]
  refine ⟨by rw [cutAt_len]; have:=trim_cnt t 10; omega,fun b x hx => Nat.le_trans (cutAt_cnt 10 b _ x hx) (trim_cnt t b)⟩
theorem lwM_cnt {t : List UInt8} {k : Nat} (hk : k < (linesL t).length) (j : Nat) : ((lwM t k).getD j []).count 44 ≤ t.count 44 ∧ ((lwM t k).getD j []).length ≤ t.length:=by
 rw [lwM_at hk,List.getD_eq_getElem?_getD]
 cases hq : (cutAt 32 (linesL t)[k])[j]? with
 | none => simp
 | some x =>
  have hm:=List.mem_of_getElem? hq
  exact ⟨Nat.le_trans (cutAt_cnt 32 44 _ x hm) ((lines_cnt t).2 44 _ (List.getElem_mem hk)),Nat.le_trans (cutAt_sum 32 _ x hm) ((linesL_le t).2 _ (List.getElem_mem hk))⟩
theorem numV_i64 (s : List UInt8) : I64 (numV s 9):=by
 unfold numV
 by_cases h : numB s 9 = true
 ·rw [if_pos h]
  obtain ⟨h1,h2,h3⟩:=numB_short h
  have:=valS_bound (m:=10) h2 (by have:=unsign_le s; omega) (by decide)
  unfold I64; omega
 ·rw [if_neg h]; unfold I64; omega
structure RSz (t : List UInt8) (r : RoomE) : Prop where
  k : r.key.length ≤ t.length
  g : r.gives.length ≤ t.count 44 + 1 ∧ ∀ s ∈ r.gives, s.length ≤ t.length
structure DSz (t : List UInt8) (d : DoorE) : Prop where
  k : d.key.length ≤ t.length ∧ d.src.length ≤ t.length ∧ d.dst.length ≤ t.length ∧ d.trick.length ≤ t.length
  tm : I64 d.time
  n : d.needs.length ≤ t.count 44 + 1 ∧ ∀ s ∈ d.needs, s.length ≤ t.length
  x : d.takes.length ≤ t.count 44 + 1 ∧ ∀ s ∈ d.takes, s.length ≤ t.length
theorem uncL_sz {t : List UInt8} {k : Nat} (hk : k < (linesL t).length) (j : Nat) : (uncL ((lwM t k).getD j [])).length ≤ t.count 44 + 1 ∧ ∀ s ∈ uncL ((lwM t k).getD j []),s.length ≤ t.length:=by
 obtain ⟨h1,h2⟩:=lwM_cnt hk j
 have h3:=uncL_len ((lwM t k).getD j [])
 exact ⟨by omega,fun s hs => Nat.le_trans (uncL_le _ s hs) h2⟩
theorem rmOf_sz {t : List UInt8} {k : Nat} (hk : k < (linesL t).length) : RSz t (rmOf (lwM t k)):=⟨(lwM_cnt hk 1).2,uncL_sz hk 2⟩
theorem drOf_sz {t : List UInt8} {k : Nat} (hk : k < (linesL t).length) : DSz t (drOf (lwM t k)) :=
 ⟨⟨(lwM_cnt hk 1).2,(lwM_cnt hk 2).2,(lwM_cnt hk 3).2,by
  show (if (lwM t k).getD 7 [] = [45] then [] else (lwM t k).getD 7 []).length ≤ _
  split
  ·simp
  ·exact (lwM_cnt hk 7).2⟩,numV_i64 _,uncL_sz hk 5,uncL_sz hk 6⟩
theorem mpR_sz (t : List UInt8) : ∀ k,k ≤ (linesL t).length → (∀ r ∈ (mpR t k).rs,RSz t r) ∧ (∀ d ∈ (mpR t k).ds,DSz t d) ∧ (mpR t k).st.length ≤ t.length ∧ (mpR t k).gl.length ≤ t.length
 | 0,_ => by simp [mpR,MpS.no]
 | k + 1,hk => by
  obtain ⟨h1,h2,h3,h4⟩:=mpR_sz t k (by omega)
  have hk' : k < (linesL t).length:=by omega
  show (∀ r ∈ (stepM _ _).rs,RSz t r) ∧ (∀ d ∈ (stepM _ _).ds,DSz t d) ∧ (stepM _ _).st.length ≤ t.length ∧ (stepM _ _).gl.length ≤ t.length
  unfold stepM
  split
  ·exact ⟨h1,h2,(lwM_cnt hk' 1).2,(lwM_cnt hk' 2).2⟩
  ·split
   ·refine ⟨fun r hr => ?_,h2,h3,h4⟩
    rcases List.mem_append.1 hr with h | h
    ·exact h1 r h
    ·rw [List.mem_singleton.1 h]; exact rmOf_sz hk'
   ·refine ⟨h1,fun d hd => ?_,h3,h4⟩
    rcases List.mem_append.1 hd with h | h
    ·exact h2 d h
    ·rw [List.mem_singleton.1 h]; exact drOf_sz hk'
theorem mapS_read {t : List UInt8} {k : Nat} {rs : List RoomE} {ds : List DoorE} (ht : t.length ≤ 1000000) (h10 : t.count 10 ≤ 900) (h44 : t.count 44 ≤ 900) (hk : k ≤ (linesL t).length) (e1 : rs.map RoomE.er = (mpR t k).rs) (e2 : ds.map DoorE.er = (mpR t k).ds) : MapS rs ds:=by
 obtain ⟨h1,h2,-,-⟩:=mpR_sz t k hk
 have hl:=mpR_len t k
 have hc:=(lines_cnt t).1
 have l1 : rs.length = (mpR t k).rs.length:=by rw [← e1,List.length_map]
 have l2 : ds.length = (mpR t k).ds.length:=by rw [← e2,List.length_map]
 have r1 : ∀ r ∈ rs,RSz t r:=fun r hr => by
  have:=h1 r.er (by rw [← e1]; exact List.mem_map.2 ⟨r,hr,rfl⟩)
  exact ⟨this.k,this.g⟩
 have d1 : ∀ d ∈ ds,DSz t d:=fun d hd => by
  have:=h2 d.er (by rw [← e2]; exact List.mem_map.2 ⟨d,hd,rfl⟩)
  exact ⟨this.k,this.tm,this.n,this.x⟩
 exact ⟨by omega,by omega,fun r hr => by have:=(r1 r hr).k; omega,fun r hr => ⟨by have:=(r1 r hr).g.1; omega,fun s hs => by have:=(r1 r hr).g.2 s hs; omega⟩,fun d hd => by have:=(d1 d hd).k; omega,fun d hd => (d1 d hd).tm,fun d hd => ⟨by have:=(d1 d hd).n.1; omega,fun s hs => by have:=(d1 d hd).n.2 s hs; omega⟩,fun d hd => ⟨by have:=(d1 d hd).x.1; omega,fun s hs => by have:=(d1 d hd).x.2 s hs; omega⟩⟩
theorem MapO.toWS {w : World} {base ca cd : Nat} {A D : Option Addr} {rs : List RoomE} {ds : List DoorE} (h : MapO w base A ca rs D cd ds) (s : MapS rs ds) : MapW w base A rs D ds:=by
 have l1 : ∀ r ∈ rs,LstO w base (r.B,r.gives,r.c):=fun r hr => h.rl _ (List.mem_map.2 ⟨r,hr,rfl⟩)
 have l2 : ∀ d ∈ ds,LstO w base (d.N,d.needs,d.nc) ∧ LstO w base (d.T,d.takes,d.tc):=fun d hd => ⟨h.dl _ (List.mem_flatMap.2 ⟨d,hd,by simp⟩),h.dl _ (List.mem_flatMap.2 ⟨d,hd,by simp⟩)⟩
 exact ⟨Row.of_own h.rooms,Row.of_own h.doors,fun r hr => ⟨Row.of_own (l1 r hr),own_capM (l1 r hr)⟩,fun d hd => ⟨Row.of_own (l2 d hd).1,own_capM (l2 d hd).1⟩,fun d hd => ⟨Row.of_own (l2 d hd).2,own_capM (l2 d hd).2⟩,s⟩
end Go.Proofs.YtijdbbnnkogkjaaGreatDoor
