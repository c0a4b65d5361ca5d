/- Texts of this seat, laid together: Nd Nv Ne Ns. -/
import Derived.Handy
import Derived.Test.YtijdbbnnkogkjaaGreatDoorBn43
import Derived.Test.YtijdbbnnkogkjaaGreatDoorBn39
import Derived.Test.YtijdbbnnkogkjaaGreatDoorBn24
import Derived.Test.YtijdbbnnkogkjaaGreatDoorBn41
/- The closure of route.Read: a line is counted and read. -/
namespace Go.Proofs.YtijdbbnnkogkjaaGreatDoor
set_option linter.unusedVariables false
set_option linter.unusedSimpArgs false
open Go.RowKit Go.Sort

theorem Stays.more {L : Nat} {bs cs : List Nat} {w w' : World} (h : Stays L bs w w') (hm : ∀ x ∈ bs,x ∈ cs) : Stays L cs w w' :=
 ⟨h.os,h.tape,h.output,h.size,fun k h1 h2 => h.block k h1 (fun e => h2 (hm k e))⟩
theorem Blk.stays {L b : Nat} {bs : List Nat} {w w' : World} {t : TypeId} {cs : Array Value} (h : Blk w b t cs) (hs : Stays L bs w w') (hb : b < L) (hn : b ∉ bs) : Blk w' b t cs:=(hs.block b hb hn).trans h
theorem MpA.setOff {t : List UInt8} {b1 b2 L k : Nat} {W : World} (h : MpA t b2 L k W) (hb : b1 < L) (hne : b1 ≠ b2) (u : Value) : MpA t b2 L k (W.setCell ⟨b1,0,none⟩ u):=by
 obtain ⟨A,ca,rs,D,cd,ds,h1,h2,h3,h4⟩:=h
 exact ⟨A,ca,rs,D,cd,ds,h1.past b1 0 u (fun e => hne e.symm),h2.setOff (p:=⟨b1,0,none⟩) hb u,h3,h4⟩
structure MpRd (t : List UInt8) (T : TypeId) (V : Nat → Value) (b1 b2 L k : Nat) (W : World) : Prop where
  lt1 : b1 < L
  lt2 : b2 < L
  ne : b1 ≠ b2
  cnt : Blk W b1 T #[V k]
  m : MpA t b2 L k W
theorem MpRd.below {t : List UInt8} {T : TypeId} {V : Nat → Value} {b1 b2 L k : Nat} {W W' : World} (h : MpRd t T V b1 b2 L k W) (hb : Below W.heap.size W W') : MpRd t T V b1 b2 L k W':=⟨h.lt1,h.lt2,h.ne,h.cnt.below hb,h.m.below hb⟩
def MpCl (t : List UInt8) (T : TypeId) (V : Nat → Value) (b1 b2 L k : Nat) (W : World) (e : Ending) (W' : World) : Prop :=
 e = .returned (.bool (okM t k)) ∧ Stays L [b1,b2] W W' ∧ (okM t k = true → MpRd t T V b1 b2 L (k + 1) W')
def cntV (k : Nat) : Value:=.int .i64 (k : Int)
set_option maxHeartbeats 4000000 in
set_option maxRecDepth 100000 in
theorem readC_any (t : List UInt8) (b1 b2 B L k : Nat) (W : World) (ht : t.length ≤ 1000000) (hk : k < (linesL t).length) (hL : L ≤ W.heap.size) (hE : EnvB B W) (hB1 : B ≤ b1) (hB2 : B ≤ b2) (hBL : B ≤ L) (h : MpRd t 3 cntV b1 b2 L k W) :
  Calls Tryz.prog 72 #[encStr (linesL t)[k],.pointer (some ⟨b1,0,none⟩),.pointer (some ⟨b2,0,none⟩)] W (MpCl t 3 cntV b1 b2 L k W):=by
 obtain ⟨l1,l2,hne,hcnt,hm⟩:=h
 have hkn : k ≤ 1000001:=by have:=(linesL_le t).1; omega
 have hsz : L ≤ (W.setCell ⟨b1,0,none⟩ (.int .i64 ((k + 1 : Nat) : Int))).heap.size:=by simpa [World.setCell] using hL
 have hE1 : EnvB B (W.setCell ⟨b1,0,none⟩ (.int .i64 ((k + 1 : Nat) : Int))):=hE.below ((Below.refl _ _).setCell (p:=⟨b1,0,none⟩) hB1 _)
 have hm1:=hm.setOff l1 hne (.int .i64 ((k + 1 : Nat) : Int))
 have hc1 : Blk (W.setCell ⟨b1,0,none⟩ (.int .i64 ((k + 1 : Nat) : Int))) b1 3 #[.int .i64 ((k + 1 : Nat) : Int)]:=by simpa using hcnt.poke 0 (.int .i64 ((k + 1 : Nat) : Int))
 have hs1 : Stays L [b1,b2] W (W.setCell ⟨b1,0,none⟩ (.int .i64 ((k + 1 : Nat) : Int))):=(Stays.refl L [b1,b2] W).set (p:=⟨b1,0,none⟩) (.inl (by simp)) _
 have hrl:=readLine_any t b2 B L k (decide (k = 0)) _ ht hk hsz hE1 hBL hB2 l2 rfl hm1
 have c0 : W.cell? ⟨b1,0,none⟩ = some (.int .i64 (k : Int)):=by simpa [cntV] using hcnt.cell 0
 have f0:=hcnt.thaw 0
 have z0:=hcnt.lt
 have w1 : IntKind.i64.wrap ((k : Int) + 1) = ((k + 1 : Nat) : Int):=by rw [IntWalk.i64_in _ ⟨by omega,by omega⟩]; push_cast; rfl
 have d1 : (((k + 1 : Nat) : Int) == 1) = decide (k = 0):=by
  by_cases h0 : k = 0
  ·rw [decide_eq_true h0,h0]; rfl
  ·rw [decide_eq_false h0]; exact beq_eq_false_iff_ne.2 (by omega)
 have GOOD : Hid (∀ e W',MpLn t b2 L k (W.setCell ⟨b1,0,none⟩ (.int .i64 ((k + 1 : Nat) : Int))) e W' → MpCl t 3 cntV b1 b2 L k W e W'):=Lib.hid (fun e W' ⟨h1,h2,h3⟩ => ⟨h1,hs1.trans (h2.more (by simp)),fun ho => ⟨l1,l2,hne,hc1.stays h2 l1 (by simpa using hne),h3 ho⟩⟩)
 generalize hP : MpCl t 3 cntV b1 b2 L k W = Post at *
 obtain ⟨b,hb⟩ : ∃ b,b = okM t k:=⟨_,rfl⟩
 clear hP hcnt hm hm1 hc1 hs1 hE hE1 hsz
 generalize (linesL t)[k] = s at *
 generalize decide (k = 0) = fst at *
 generalize ((k + 1 : Nat) : Int) = k1 at *
 go_enter Tryz.func72,Tryz.ntmps72
 go_wp2_with fail
 refine hrl.mono ?_
 clear hrl
 rintro e w2 hp
 have hq:=GOOD.out e w2 hp
 obtain ⟨rfl,-,-⟩:=hp
 rw [← hb] at hq ⊢
 clear hb
 go_wp2_with fail
 exact hq
end Go.Proofs.YtijdbbnnkogkjaaGreatDoor
/- The walk of splitref1.SameMap at maps that are the same. -/
namespace Go.Proofs.YtijdbbnnkogkjaaGreatDoor
set_option linter.unusedVariables false
set_option linter.unusedSimpArgs false
open Go.RowKit Go.Sort

set_option maxHeartbeats 2000000 in
set_option maxRecDepth 100000 in
theorem sameR_yes (B B' : Option Addr) (c c' lo lo' : Nat) (key : List UInt8) (g : List (List UInt8)) (w : World) (hr : Row w lo 1 B g.length (strs g)) (hr' : Row w lo' 1 B' g.length (strs g)) (hl : g.length ≤ 1000000000) :
  Calls Tryz.prog 80 #[.agg #[.string ⟨key.toArray⟩,.slice B g.length c],.agg #[.string ⟨key.toArray⟩,.slice B' g.length c']] w fun e w' => e = .returned (.bool true) ∧ Below w.heap.size w w':=by
 have e1 : (key == key) = true:=by simp
 go_enter Tryz.func80,Tryz.ntmps80
 go_wp2_with fail
 refine (equalS_any B B' c c' lo lo' g g _ ((hr.alloc _).alloc _) ((hr'.alloc _).alloc _) hl hl).mono ?_
 rintro e w1 ⟨rfl,q,rfl⟩
 rw [decide_eq_true rfl]
 go_wp2_with fail
 go_ret
 exact ⟨rfl,(by repeat (first | exact Below.refl _ _ | refine Below.alloc ?_ (by first | omega | (simp; omega) | simp) _ | refine below_drewN' ?_ _ | refine Below.drew ?_))⟩
set_option maxHeartbeats 4000000 in
set_option maxRecDepth 100000 in
theorem sameD_yes (N N' T T' : Option Addr) (c c' d d' lo lo' : Nat) (key src dst trk : List UInt8) (tm : Int) (g h : List (List UInt8)) (w : World) (hn : Row w lo 1 N g.length (strs g)) (hn' : Row w lo' 1 N' g.length (strs g)) (ht : Row w lo 1 T h.length (strs h)) (ht' : Row w lo' 1 T' h.length (strs h)) (hl : g.length ≤ 1000000000) (hm : h.length ≤ 1000000000) :
  Calls Tryz.prog 82 #[.agg #[.string ⟨key.toArray⟩,.string ⟨src.toArray⟩,.string ⟨dst.toArray⟩,.int .i64 tm,.slice N g.length c,.slice T h.length d,.string ⟨trk.toArray⟩],.agg #[.string ⟨key.toArray⟩,.string ⟨src.toArray⟩,.string ⟨dst.toArray⟩,.int .i64 tm,.slice N' g.length c',.slice T' h.length d',.string ⟨trk.toArray⟩]] w fun e w' => e = .returned (.bool true) ∧ Below w.heap.size w w':=by
 have e1 : (key == key) = true:=by simp
 have e2 : (src == src) = true:=by simp
 have e3 : (dst == dst) = true:=by simp
 have e4 : (trk == trk) = true:=by simp
 have e5 : (tm == tm) = true:=by simp
 go_enter Tryz.func82,Tryz.ntmps82
 go_wp2_with fail
 refine (equalS_any N N' c c' lo lo' g g _ ((hn.alloc _).alloc _) ((hn'.alloc _).alloc _) hl hl).mono ?_
 rintro e w1 ⟨rfl,q,rfl⟩
 rw [decide_eq_true rfl]
 go_wp2_with fail
 refine (equalS_any T T' d d' lo lo' h h _ (((ht.alloc _).alloc _).below (below_drewN' (Below.refl _ _) q)) (((ht'.alloc _).alloc _).below (below_drewN' (Below.refl _ _) q)) hm hm).mono ?_
 rintro e w1 ⟨rfl,q2,rfl⟩
 rw [decide_eq_true rfl]
 go_wp2_with fail
 go_ret
 exact ⟨rfl,(by repeat (first | exact Below.refl _ _ | refine Below.alloc ?_ (by first | omega | (simp; omega) | simp) _ | refine below_drewN' ?_ _ | refine Below.drew ?_))⟩
theorem er_at {rs rs' : List RoomE} (he : rs.map RoomE.er = rs'.map RoomE.er) (k : Nat) (hk : k < rs.length) (hk' : k < rs'.length) : rs[k].key = rs'[k].key ∧ rs[k].gives = rs'[k].gives:=by
 have h1 : (rs.map RoomE.er)[k]? = (rs'.map RoomE.er)[k]?:=by rw [he]
 rw [List.getElem?_map,List.getElem?_map,List.getElem?_eq_getElem hk,List.getElem?_eq_getElem hk'] at h1
 simp only [Option.map_some,Option.some.injEq] at h1
 have a:=congrArg RoomE.key h1
 have b:=congrArg RoomE.gives h1
 exact ⟨a,b⟩
theorem erD_at {ds ds' : List DoorE} (he : ds.map DoorE.er = ds'.map DoorE.er) (k : Nat) (hk : k < ds.length) (hk' : k < ds'.length) : ds[k].key = ds'[k].key ∧ ds[k].src = ds'[k].src ∧ ds[k].dst = ds'[k].dst ∧ ds[k].time = ds'[k].time ∧ ds[k].needs = ds'[k].needs ∧ ds[k].takes = ds'[k].takes ∧ ds[k].trick = ds'[k].trick:=by
 have h1 : (ds.map DoorE.er)[k]? = (ds'.map DoorE.er)[k]?:=by rw [he]
 rw [List.getElem?_map,List.getElem?_map,List.getElem?_eq_getElem hk,List.getElem?_eq_getElem hk'] at h1
 simp only [Option.map_some,Option.some.injEq] at h1
 have a1:=congrArg DoorE.key h1
 have a2:=congrArg DoorE.src h1
 have a3:=congrArg DoorE.dst h1
 have a4:=congrArg DoorE.time h1
 have a5:=congrArg DoorE.needs h1
 have a6:=congrArg DoorE.takes h1
 have a7:=congrArg DoorE.trick h1
 exact ⟨a1,a2,a3,a4,a5,a6,a7⟩
set_option maxHeartbeats 2000000 in
set_option maxRecDepth 100000 in
theorem eqRooms_yes (A A' D D' : Option Addr) (c c' lo lo' : Nat) (rs rs' : List RoomE) (ds ds' : List DoorE) (w : World) (hA : MapW w lo A rs D ds) (hB : MapW w lo' A' rs' D' ds') (he : rs.map RoomE.er = rs'.map RoomE.er) :
  Calls Tryz.prog 79 #[.slice A rs.length c,.slice A' rs'.length c',.func (.func 80) #[] #[]] w fun e w' => e = .returned (.bool true) ∧ Below w.heap.size w w':=by
 have hlen : rs.length = rs'.length:=by have:=congrArg List.length he; simpa using this
 have hsl:=hA.s.rl
 have HE:=Lib.hid (er_at he)
 have h0 : ((rs.length : Int) != (rs'.length : Int)) = false:=by simp [hlen]
 have HLEN:=Lib.hid hlen
 have HG:=Lib.hid hA.s.rg
 clear hlen he
 go_enter Tryz.func79,Tryz.ntmps79
 go_wp2_with fail
 go_loopw [17] (fun i wr => ∃ (k : Nat),k ≤ rs.length ∧ i = .int .i64 k ∧ Below w.heap.size w wr) (fun i _ => rs.length - (intOf i).toNat)
 case atStart => exact ⟨0,Nat.zero_le _,rfl,Below.refl _ _⟩
 case round =>
  obtain ⟨k,hk,rfl,hbw⟩:=hrel
  have hz:=hbw.size
  by_cases hlt : k < rs.length
  ·have hlt' : k < rs'.length:=by have:=HLEN.out; omega
   have hA2:=hA.below hbw
   have hB2:=hB.below hbw
   obtain ⟨b,off,rfl,hbs,hc⟩:=hA2.room (by omega)
   obtain ⟨b',off',rfl,hbs',hd⟩:=hB2.room (by omega)
   obtain ⟨c0,c1⟩:=hc k hlt
   obtain ⟨d0,d1⟩:=hd k hlt'
   obtain ⟨q1,q2⟩:=HE.out k hlt hlt'
   have hg:=(HG.out _ (List.getElem_mem hlt)).1
   have r1:=(hA2.gives _ (List.getElem_mem hlt)).1
   have r2:=(hB2.gives _ (List.getElem_mem hlt')).1
   clear hA2 hB2 hc hd
   generalize rs[k] = x at *
   generalize rs'[k] = y at *
   obtain ⟨xk,xg,xB,xc⟩:=x
   obtain ⟨yk,yg,yB,yc⟩:=y
   dsimp only at *
   subst q1 q2
   simp only [encStr] at c0 d0
   go_wp2_with fail
   refine (sameR_yes xB yB xc yc lo lo' xk xg _ ((r1.alloc _).alloc _) ((r2.alloc _).alloc _) (by omega)).mono ?_
   rintro e w1 ⟨rfl,hb1⟩
   go_wp2_with fail
   go_roundw
   case rel => exact ⟨k + 1,by omega,by go_num,below_up (by repeat (first | exact hbw | refine Below.alloc ?_ (by first | omega | (simp; omega) | simp) _ | refine below_drewN' ?_ _ | refine Below.drew ?_)) hb1⟩
   case measure => simp [intOf]; omega
  ·go_wp2_with fail
   go_ret
   exact ⟨rfl,hbw⟩
set_option maxHeartbeats 4000000 in
set_option maxRecDepth 100000 in
theorem eqDoors_yes (A A' D D' : Option Addr) (c c' lo lo' : Nat) (rs rs' : List RoomE) (ds ds' : List DoorE) (w : World) (hA : MapW w lo A rs D ds) (hB : MapW w lo' A' rs' D' ds') (he : ds.map DoorE.er = ds'.map DoorE.er) :
  Calls Tryz.prog 81 #[.slice D ds.length c,.slice D' ds'.length c',.func (.func 82) #[] #[]] w fun e w' => e = .returned (.bool true) ∧ Below w.heap.size w w':=by
 have hlen : ds.length = ds'.length:=by have:=congrArg List.length he; simpa using this
 have hsl:=hA.s.dl
 have HE:=Lib.hid (erD_at he)
 have h0 : ((ds.length : Int) != (ds'.length : Int)) = false:=by simp [hlen]
 have HLEN:=Lib.hid hlen
 have HG:=Lib.hid hA.s.dn
 have HH:=Lib.hid hA.s.dx
 clear hlen he
 go_enter Tryz.func81,Tryz.ntmps81
 go_wp2_with fail
 go_loopw [17] (fun i wr => ∃ (k : Nat),k ≤ ds.length ∧ i = .int .i64 k ∧ Below w.heap.size w wr) (fun i _ => ds.length - (intOf i).toNat)
 case atStart => exact ⟨0,Nat.zero_le _,rfl,Below.refl _ _⟩
 case round =>
  obtain ⟨k,hk,rfl,hbw⟩:=hrel
  have hz:=hbw.size
  by_cases hlt : k < ds.length
  ·have hlt' : k < ds'.length:=by have:=HLEN.out; omega
   have hA2:=hA.below hbw
   have hB2:=hB.below hbw
   obtain ⟨b,off,rfl,hbs,hc⟩:=hA2.door (by omega)
   obtain ⟨b',off',rfl,hbs',hd⟩:=hB2.door (by omega)
   obtain ⟨c0,c1,c2,c3,c4,c5,c6⟩:=hc k hlt
   obtain ⟨d0,d1,d2,d3,d4,d5,d6⟩:=hd k hlt'
   obtain ⟨q1,q2,q3,q4,q5,q6,q7⟩:=HE.out k hlt hlt'
   have hg:=(HG.out _ (List.getElem_mem hlt)).1
   have hh:=(HH.out _ (List.getElem_mem hlt)).1
   have r1:=(hA2.needs _ (List.getElem_mem hlt)).1
   have r2:=(hB2.needs _ (List.getElem_mem hlt')).1
   have s1:=(hA2.takes _ (List.getElem_mem hlt)).1
   have s2:=(hB2.takes _ (List.getElem_mem hlt')).1
   clear hA2 hB2 hc hd
   generalize ds[k] = x at *
   generalize ds'[k] = y at *
   obtain ⟨x1,x2,x3,x4,x5,x6,x7,x8,x9,x10,x11⟩:=x
   obtain ⟨y1,y2,y3,y4,y5,y6,y7,y8,y9,y10,y11⟩:=y
   dsimp only at *
   subst q1 q2 q3 q4 q5 q6 q7
   simp only [encStr] at c0 c1 c2 c6 d0 d1 d2 d6
   go_wp2_with fail
   refine (sameD_yes x8 y8 x10 y10 x9 y9 x11 y11 lo lo' x1 x2 x3 x7 x4 x5 x6 _ ((r1.alloc _).alloc _) ((r2.alloc _).alloc _) ((s1.alloc _).alloc _) ((s2.alloc _).alloc _) (by omega) (by omega)).mono ?_
   rintro e w1 ⟨rfl,hb1⟩
   go_wp2_with fail
   go_roundw
   case rel => exact ⟨k + 1,by omega,by go_num,below_up (by repeat (first | exact hbw | refine Below.alloc ?_ (by first | omega | (simp; omega) | simp) _ | refine below_drewN' ?_ _ | refine Below.drew ?_)) hb1⟩
   case measure => simp [intOf]; omega
  ·go_wp2_with fail
   go_ret
   exact ⟨rfl,hbw⟩
set_option maxHeartbeats 4000000 in
set_option maxRecDepth 100000 in
theorem sameMap_yes (A A' D D' : Option Addr) (ca ca' cd cd' lo lo' : Nat) (rs rs' : List RoomE) (ds ds' : List DoorE) (st gl : List UInt8) (w : World) (hA : MapW w lo A rs D ds) (hB : MapW w lo' A' rs' D' ds') (he : rs.map RoomE.er = rs'.map RoomE.er) (hd : ds.map DoorE.er = ds'.map DoorE.er) :
  Calls Tryz.prog 24 #[.agg #[.slice A rs.length ca,.slice D ds.length cd,.string ⟨st.toArray⟩,.string ⟨gl.toArray⟩],.agg #[.slice A' rs'.length ca',.slice D' ds'.length cd',.string ⟨st.toArray⟩,.string ⟨gl.toArray⟩]] w fun e w' => e = .returned (.bool true) ∧ Below w.heap.size w w':=by
 have e1 : (st == st) = true:=by simp
 have e2 : (gl == gl) = true:=by simp
 have HE:=Lib.hid he
 have HD:=Lib.hid hd
 clear he hd
 go_enter Tryz.func24,Tryz.ntmps24
 go_wp2_with fail
 have hA2:=(hA.alloc (.cells #[.slice A rs.length ca,.slice D ds.length cd,.string ⟨st.toArray⟩,.string ⟨gl.toArray⟩] 29)).alloc (.cells #[.slice A' rs'.length ca',.slice D' ds'.length cd',.string ⟨st.toArray⟩,.string ⟨gl.toArray⟩] 29)
 have hB2:=(hB.alloc (.cells #[.slice A rs.length ca,.slice D ds.length cd,.string ⟨st.toArray⟩,.string ⟨gl.toArray⟩] 29)).alloc (.cells #[.slice A' rs'.length ca',.slice D' ds'.length cd',.string ⟨st.toArray⟩,.string ⟨gl.toArray⟩] 29)
 have k1 : Blk ((w.alloc (.cells #[.slice A rs.length ca,.slice D ds.length cd,.string ⟨st.toArray⟩,.string ⟨gl.toArray⟩] 29)).alloc (.cells #[.slice A' rs'.length ca',.slice D' ds'.length cd',.string ⟨st.toArray⟩,.string ⟨gl.toArray⟩] 29)) w.heap.size 29 #[.slice A rs.length ca,.slice D ds.length cd,.string ⟨st.toArray⟩,.string ⟨gl.toArray⟩]:=(Blk.new _ _ _).alloc _
 have k2 : Blk ((w.alloc (.cells #[.slice A rs.length ca,.slice D ds.length cd,.string ⟨st.toArray⟩,.string ⟨gl.toArray⟩] 29)).alloc (.cells #[.slice A' rs'.length ca',.slice D' ds'.length cd',.string ⟨st.toArray⟩,.string ⟨gl.toArray⟩] 29)) (w.heap.size + 1) 29 #[.slice A' rs'.length ca',.slice D' ds'.length cd',.string ⟨st.toArray⟩,.string ⟨gl.toArray⟩]:=Blk.at_ _ (by simp)
 refine (eqRooms_yes A A' D D' ca ca' lo lo' rs rs' ds ds' _ hA2 hB2 HE.out).mono ?_
 rintro e w1 ⟨rfl,hb1⟩
 replace hA2:=hA2.below hb1
 replace hB2:=hB2.below hb1
 have hbw:=below_up (show Below w.heap.size w _ from (by repeat (first | exact Below.refl _ _ | refine Below.alloc ?_ (by first | omega | (simp; omega) | simp) _ | refine below_drewN' ?_ _ | refine Below.drew ?_))) hb1
 have c1:=(k1.below hb1).cell 1
 have c2:=(k2.below hb1).cell 1
 have z1:=(k1.below hb1).lt
 have z2:=(k2.below hb1).lt
 simp only [List.getElem?_toArray,List.getElem?_cons_zero,List.getElem?_cons_succ] at c1 c2
 clear k1 k2
 go_wp2_with fail
 refine (eqDoors_yes A A' D D' cd cd' lo lo' rs rs' ds ds' _ hA2 hB2 HD.out).mono ?_
 rintro e w2 ⟨rfl,hb2⟩
 go_wp2_with fail
 go_ret
 exact ⟨rfl,below_up hbw hb2⟩
end Go.Proofs.YtijdbbnnkogkjaaGreatDoor
/- A line of a map is read by the reference: splitref1.MapRead's closure. -/
namespace Go.Proofs.YtijdbbnnkogkjaaGreatDoor
set_option linter.unusedVariables false
set_option linter.unusedSimpArgs false
open Go.RowKit Go.Sort

end Go.Proofs.YtijdbbnnkogkjaaGreatDoor
/- How great a map that is read can be: by the text's line feeds and commas. -/
namespace Go.Proofs.YtijdbbnnkogkjaaGreatDoor
set_option linter.unusedVariables false
set_option linter.unusedSimpArgs false
open Go.RowKit Go.Sort

theorem cutAt_cnt (c b : UInt8) (l : List UInt8) : ∀ x ∈ cutAt c l,x.count b ≤ l.count b:=by
 induction l with
 | nil => intro x hx; simp [cutAt] at hx; subst hx; simp
 | cons a l ih =>
  intro x hx
  have hle : l.count b ≤ (a :: l).count b:=by rw [List.count_cons]; omega
  by_cases ha : a = c
  ·have e : cutAt c (a :: l) = [] :: cutAt c l:=by simp [cutAt,ha]
   rw [e,List.mem_cons] at hx
   rcases hx with rfl | hx
   ·simp
   ·exact Nat.le_trans (ih x hx) hle
  ·cases hc : cutAt c l with
   | nil => exact absurd hc (cutAt_ne c l)
   | cons y ys =>
    have e : cutAt c (a :: l) = (a :: y) :: ys:=by simp [cutAt,ha,hc]
    rw [e,List.mem_cons] at hx
    rcases hx with rfl | hx
    ·have:=ih y (by rw [hc]; simp)
     rw [List.count_cons,List.count_cons]; omega
    ·exact Nat.le_trans (ih x (by rw [hc]; simp [hx])) hle
theorem trim_cnt (t : List UInt8) (b : UInt8) : (Lib.trimSuffix t [10]).count b ≤ t.count b:=by
 by_cases h : t.getLast? = some 10
 ·obtain ⟨a,rfl⟩ : ∃ a,t = a ++ [10]:=by
   rw [List.getLast?_eq_some_iff] at h
   obtain ⟨a,e⟩:=h
   exact ⟨a,e⟩
  rw [trimNl_yes,List.count_append]; omega
 ·rw [trimNl_no h]; exact Nat.le_refl _
theorem lines_cnt (t : List UInt8) : (linesL t).length ≤ t.count 10 + 1 ∧ ∀ b,∀ x ∈ linesL t,x.count b ≤ t.count b:=by
 unfold linesL
 by_cases h : t.isEmpty = true
 ·rw [if_pos h]; simp
 ·rw [if_neg h]
  refine ⟨by rw [cutAt_len]; have:=trim_cnt t 10; omega,fun b x hx => Nat.le_trans (cutAt_cnt 10 b _ x hx) (trim_cnt t b)⟩
theorem lwM_cnt {t : List UInt8} {k : Nat} (hk : k < (linesL t).length) (j : Nat) : ((lwM t k).getD j []).count 44 ≤ t.count 44 ∧ ((lwM t k).getD j []).length ≤ t.length:=by
 rw [lwM_at hk,List.getD_eq_getElem?_getD]
 cases hq : (cutAt 32 (linesL t)[k])[j]? with
 | none => simp
 | some x =>
  have hm:=List.mem_of_getElem? hq
  exact ⟨Nat.le_trans (cutAt_cnt 32 44 _ x hm) ((lines_cnt t).2 44 _ (List.getElem_mem hk)),Nat.le_trans (cutAt_sum 32 _ x hm) ((linesL_le t).2 _ (List.getElem_mem hk))⟩
theorem numV_i64 (s : List UInt8) : I64 (numV s 9):=by
 unfold numV
 by_cases h : numB s 9 = true
 ·rw [if_pos h]
  obtain ⟨h1,h2,h3⟩:=numB_short h
  have:=valS_bound (m:=10) h2 (by have:=unsign_le s; omega) (by decide)
  unfold I64; omega
 ·rw [if_neg h]; unfold I64; omega
structure RSz (t : List UInt8) (r : RoomE) : Prop where
  k : r.key.length ≤ t.length
  g : r.gives.length ≤ t.count 44 + 1 ∧ ∀ s ∈ r.gives, s.length ≤ t.length
structure DSz (t : List UInt8) (d : DoorE) : Prop where
  k : d.key.length ≤ t.length ∧ d.src.length ≤ t.length ∧ d.dst.length ≤ t.length ∧ d.trick.length ≤ t.length
  tm : I64 d.time
  n : d.needs.length ≤ t.count 44 + 1 ∧ ∀ s ∈ d.needs, s.length ≤ t.length
  x : d.takes.length ≤ t.count 44 + 1 ∧ ∀ s ∈ d.takes, s.length ≤ t.length
theorem uncL_sz {t : List UInt8} {k : Nat} (hk : k < (linesL t).length) (j : Nat) : (uncL ((lwM t k).getD j [])).length ≤ t.count 44 + 1 ∧ ∀ s ∈ uncL ((lwM t k).getD j []),s.length ≤ t.length:=by
 obtain ⟨h1,h2⟩:=lwM_cnt hk j
 have h3:=uncL_len ((lwM t k).getD j [])
 exact ⟨by omega,fun s hs => Nat.le_trans (uncL_le _ s hs) h2⟩
theorem rmOf_sz {t : List UInt8} {k : Nat} (hk : k < (linesL t).length) : RSz t (rmOf (lwM t k)):=⟨(lwM_cnt hk 1).2,uncL_sz hk 2⟩
theorem drOf_sz {t : List UInt8} {k : Nat} (hk : k < (linesL t).length) : DSz t (drOf (lwM t k)) :=
 ⟨⟨(lwM_cnt hk 1).2,(lwM_cnt hk 2).2,(lwM_cnt hk 3).2,by
  show (if (lwM t k).getD 7 [] = [45] then [] else (lwM t k).getD 7 []).length ≤ _
  split
  ·simp
  ·exact (lwM_cnt hk 7).2⟩,numV_i64 _,uncL_sz hk 5,uncL_sz hk 6⟩
theorem mpR_sz (t : List UInt8) : ∀ k,k ≤ (linesL t).length → (∀ r ∈ (mpR t k).rs,RSz t r) ∧ (∀ d ∈ (mpR t k).ds,DSz t d) ∧ (mpR t k).st.length ≤ t.length ∧ (mpR t k).gl.length ≤ t.length
 | 0,_ => by simp [mpR,MpS.no]
 | k + 1,hk => by
  obtain ⟨h1,h2,h3,h4⟩:=mpR_sz t k (by omega)
  have hk' : k < (linesL t).length:=by omega
  show (∀ r ∈ (stepM _ _).rs,RSz t r) ∧ (∀ d ∈ (stepM _ _).ds,DSz t d) ∧ (stepM _ _).st.length ≤ t.length ∧ (stepM _ _).gl.length ≤ t.length
  unfold stepM
  split
  ·exact ⟨h1,h2,(lwM_cnt hk' 1).2,(lwM_cnt hk' 2).2⟩
  ·split
   ·refine ⟨fun r hr => ?_,h2,h3,h4⟩
    rcases List.mem_append.1 hr with h | h
    ·exact h1 r h
    ·rw [List.mem_singleton.1 h]; exact rmOf_sz hk'
   ·refine ⟨h1,fun d hd => ?_,h3,h4⟩
    rcases List.mem_append.1 hd with h | h
    ·exact h2 d h
    ·rw [List.mem_singleton.1 h]; exact drOf_sz hk'
theorem mapS_read {t : List UInt8} {k : Nat} {rs : List RoomE} {ds : List DoorE} (ht : t.length ≤ 1000000) (h10 : t.count 10 ≤ 900) (h44 : t.count 44 ≤ 900) (hk : k ≤ (linesL t).length) (e1 : rs.map RoomE.er = (mpR t k).rs) (e2 : ds.map DoorE.er = (mpR t k).ds) : MapS rs ds:=by
 obtain ⟨h1,h2,-,-⟩:=mpR_sz t k hk
 have hl:=mpR_len t k
 have hc:=(lines_cnt t).1
 have l1 : rs.length = (mpR t k).rs.length:=by rw [← e1,List.length_map]
 have l2 : ds.length = (mpR t k).ds.length:=by rw [← e2,List.length_map]
 have r1 : ∀ r ∈ rs,RSz t r:=fun r hr => by
  have:=h1 r.er (by rw [← e1]; exact List.mem_map.2 ⟨r,hr,rfl⟩)
  exact ⟨this.k,this.g⟩
 have d1 : ∀ d ∈ ds,DSz t d:=fun d hd => by
  have:=h2 d.er (by rw [← e2]; exact List.mem_map.2 ⟨d,hd,rfl⟩)
  exact ⟨this.k,this.tm,this.n,this.x⟩
 exact ⟨by omega,by omega,fun r hr => by have:=(r1 r hr).k; omega,fun r hr => ⟨by have:=(r1 r hr).g.1; omega,fun s hs => by have:=(r1 r hr).g.2 s hs; omega⟩,fun d hd => by have:=(d1 d hd).k; omega,fun d hd => (d1 d hd).tm,fun d hd => ⟨by have:=(d1 d hd).n.1; omega,fun s hs => by have:=(d1 d hd).n.2 s hs; omega⟩,fun d hd => ⟨by have:=(d1 d hd).x.1; omega,fun s hs => by have:=(d1 d hd).x.2 s hs; omega⟩⟩
theorem MapO.toWS {w : World} {base ca cd : Nat} {A D : Option Addr} {rs : List RoomE} {ds : List DoorE} (h : MapO w base A ca rs D cd ds) (s : MapS rs ds) : MapW w base A rs D ds:=by
 have l1 : ∀ r ∈ rs,LstO w base (r.B,r.gives,r.c):=fun r hr => h.rl _ (List.mem_map.2 ⟨r,hr,rfl⟩)
 have l2 : ∀ d ∈ ds,LstO w base (d.N,d.needs,d.nc) ∧ LstO w base (d.T,d.takes,d.tc):=fun d hd => ⟨h.dl _ (List.mem_flatMap.2 ⟨d,hd,by simp⟩),h.dl _ (List.mem_flatMap.2 ⟨d,hd,by simp⟩)⟩
 exact ⟨Row.of_own h.rooms,Row.of_own h.doors,fun r hr => ⟨Row.of_own (l1 r hr),own_capM (l1 r hr)⟩,fun d hd => ⟨Row.of_own (l2 d hd).1,own_capM (l2 d hd).1⟩,fun d hd => ⟨Row.of_own (l2 d hd).2,own_capM (l2 d hd).2⟩,s⟩
end Go.Proofs.YtijdbbnnkogkjaaGreatDoor
