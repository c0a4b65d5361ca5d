/- Texts of this seat, laid together: HpU. -/
import Derived.Test.YtpialnjfdbfkdaaGreatDoorBs40
import Derived.Test.YtpialnjfdbfkdaaGreatDoorBs18
import Derived.Test.YtpialnjfdbfkdaaGreatDoorBs25
/- The walks of wantedFault and From. -/
namespace Go.Proofs.YtpialnjfdbfkdaaGreatDoor
set_option linter.unusedVariables false
set_option linter.unusedSimpArgs false
open Go.RowKit Go.Sort Go.Shelf

def wantE (T l : List (List UInt8)) : Int:=if thingsE l ≠ 0 then thingsE l else if l.any (fun x => !decide (x ∈ T)) then 8 else 0
theorem wantE_0 {T l : List (List UInt8)} (h : wantE T l = 0) : thingsE l = 0 ∧ ∀ x ∈ l,x ∈ T:=by
 unfold wantE at h
 by_cases c : thingsE l = 0
 ·rw [if_neg (by simp [c])] at h
  refine ⟨c,fun x hx => ?_⟩
  by_cases c2 : l.any (fun x => !decide (x ∈ T)) = true
  ·rw [if_pos c2] at h; cases h
  ·have:=List.any_eq_false.1 (by simpa using c2 : l.any (fun x => !decide (x ∈ T)) = false) x hx
   simpa using this
 ·rw [if_pos c] at h; exact absurd h c
theorem waC_any (x : List UInt8) (pb c lo : Nat) (A : Option Addr) (th : List (List UInt8)) (w : World) (h1 : w.cell? ⟨pb,0,none⟩ = some (.slice A th.length c)) (hr : Row w lo 1 A th.length (strs th)) (hl : th.length ≤ 1000000000) :
  Calls Tryz.prog 95 #[encStr x,.pointer (some ⟨pb,0,none⟩)] w fun e w' => e = .returned (.bool (!decide (x ∈ th))) ∧ ∃ q,w' = w.drewN q:=by
 have hcon:=containsS_any A c lo th x w hr hl
 unfold encStr at hcon ⊢
 go_enter Tryz.func95,Tryz.ntmps95
 go_wp2_with fail
 refine hcon.mono ?_
 rintro e w1 ⟨rfl,rfl⟩
 go_wp2_with fail
 go_ret
 exact ⟨rfl,0,rfl⟩
theorem waX_any (pb c lo lo2 nc : Nat) (A N : Option Addr) (th l : List (List UInt8)) (w : World) (h1 : w.cell? ⟨pb,0,none⟩ = some (.slice A th.length c)) (hr : Row w lo 1 A th.length (strs th)) (hl : th.length ≤ 1000000000) (hn : Row w lo2 1 N l.length (strs l)) (hnl : l.length ≤ 1000000000) :
  Calls Tryz.prog 58 #[.slice N l.length nc,.func (.func 95) #[] #[.pointer (some ⟨pb,0,none⟩)]] w fun e w' => e = .returned (.bool (l.any fun x => !decide (x ∈ th))) ∧ Below w.heap.size w w':=by
 have eg : ∀ args w,(callFunc 95 args).run Tryz.prog w = .ok (.enter 95 args) w:=enters_of Tryz.func95 (by kernel_rfl) rfl
 have hz:=World.block_lt_of_cell? w _ h1
 rcases Nat.eq_zero_or_pos l.length with h0 | h0
 ·obtain rfl : l = []:=List.eq_nil_of_length_eq_zero h0
  refine (AnyE.slices_ContainsFunc_empty Tryz.layCon N nc _ w).mono ?_
  rintro e w' ⟨rfl,rfl⟩
  exact ⟨rfl,Below.refl _ _⟩
 ·obtain ⟨b,off,rfl,hb,hc⟩:=strs_at hn h0
  have hp : PredAt Tryz.prog 95 #[.pointer (some ⟨pb,0,none⟩)] encStr (fun x => !decide (x ∈ th)) w:=fun W x hW =>
   waC_any x pb c lo A th W ((hW.cell (p:=⟨pb,0,none⟩) hz).trans h1) (hr.below hW) hl
  have:=AnyE.slices_ContainsFunc Tryz.layCon encStr (fun x => !decide (x ∈ th)) 95 #[.pointer (some ⟨pb,0,none⟩)] eg b off l.length nc l w hp (Nat.le_refl _) (by omega) (fun j hj => by rw [getElem!_pos l j hj]; exact hc j hj)
  rw [List.take_length] at this
  refine this.mono ?_
  rintro e w' ⟨rfl,q,rfl⟩
  exact ⟨rfl,below_drewN' (Below.refl _ _) q⟩
set_option maxHeartbeats 4000000 in
set_option maxRecDepth 100000 in
theorem wanted_any (M lo ca cd lo2 c2 : Nat) (A : Option Addr) (rs : List RoomE) (D : Option Addr) (ds : List DoorE) (st gl : List UInt8) (N : Option Addr) (l : List (List UInt8)) (v w : World) (hC : McC v w M lo A rs ca D ds cd st gl) (hr : Row w lo2 1 N l.length (strs l)) (hl : l.length ≤ 1000000000) (hfew : (onceT (allT rs ds)).length ≤ 10) :
  Calls Tryz.prog 51 #[.pointer (some ⟨M,0,none⟩),.slice N l.length c2] w fun e w' => e = .returned (.int .i64 (wantE (onceT (allT rs ds)) l)) ∧ Below w.heap.size w w':=by
 have HTF:=Lib.hid (thingsFault_any N c2 lo2 l w hr hl)
 have HTH : Hid (∀ W,Below w.heap.size w W → Calls Tryz.prog 83 #[.pointer (some ⟨M,0,none⟩)] W fun e w' => ∃ A' c',e = .returned (.slice A' (onceT (allT rs ds)).length c') ∧ w'.ownsRow W.heap.size 9 1 (.slice A' (onceT (allT rs ds)).length c') (onceT (allT rs ds)).length (strs (onceT (allT rs ds))) ∧ Below W.heap.size W w'):=Lib.hid (fun W hb => things_any lo ca cd M A rs D ds W (hC.m.below hb) (hC.below hb).cells.1 (hC.below hb).cells.2.1)
 have HRR:=Lib.hid hr
 clear hC hr
 generalize onceT (allT rs ds) = T at *
 have HW : Hid (wantE T l = if thingsE l ≠ 0 then thingsE l else if l.any (fun x => !decide (x ∈ T)) then 8 else 0):=Lib.hid rfl
 generalize wantE T l = we at *
 generalize thingsE l = te at *
 go_enter Tryz.func51,Tryz.ntmps51
 go_wp2_with fail
 refine HTF.out.mono ?_
 rintro e w1 ⟨rfl,hb⟩
 by_cases h0 : te = 0
 ·have HV : Hid (we = if l.any (fun x => !decide (x ∈ T)) then 8 else 0):=Lib.hid (by rw [HW.out,if_neg (by simp [h0])])
  have d0 : (te != 0) = false:=by rw [h0]; rfl
  clear h0 HW
  go_wp2_with fail
  refine (HTH.out _ hb).mono ?_
  rintro e w2 ⟨A',c',rfl,ho,hb2⟩
  have hb:=below_up hb hb2
  have hx : Blk (w2.alloc (.cells #[.slice A' T.length c'] 31)) w2.heap.size 31 #[.slice A' T.length c']:=Blk.new _ _ _
  have hb:=hb.alloc hb.size (.cells #[.slice A' T.length c'] 31)
  have hro:=(Row.of_own ho).alloc (.cells #[.slice A' T.length c'] 31)
  go_upto_region 5 with (fail)
  generalize w2.alloc (.cells #[.slice A' T.length c'] 31) = w3 at *
  generalize w2.heap.size = pb at *
  have hwa:=waX_any pb c' _ lo2 c2 A' N T l w3 (hx.cell 0) hro (by omega) (HRR.out.below hb) hl
  generalize (l.any fun x => !decide (x ∈ T)) = an at *
  clear ho hb2 hx hro
  go_wp2_with fail
  refine hwa.mono ?_
  rintro e w4 ⟨rfl,hb4⟩
  have hb:=below_up hb hb4
  clear hwa hb4
  cases an with
  | true =>
   go_wp2_with fail
   go_ret
   exact ⟨by rw [HV.out]; rfl,hb⟩
  | false =>
   go_wp2_with fail
   go_ret
   exact ⟨by rw [HV.out]; rfl,hb⟩
 ·have HV : Hid (we = te):=Lib.hid (by rw [HW.out,if_pos h0])
  have d0 : (te != 0) = true:=bne_iff_ne.2 h0
  go_wp2_with fail
  go_ret
  exact ⟨by rw [HV.out]; rfl,hb⟩
def fromE (rs : List RoomE) (ds : List DoorE) (st gl : List UInt8) (tr : List (List UInt8)) (room : List UInt8) (th : List (List UInt8)) : Int :=
 if tricksE rs ds st gl tr ≠ 0 then tricksE rs ds st gl tr else if room ∉ rs.map RoomE.key then 8 else wantE (onceT (allT rs ds)) th
def FrPost (w : World) (rs : List RoomE) (ds : List DoorE) (T tr : List (List UInt8)) (gl room : List UInt8) (th : List (List UInt8)) (err : Int) (e : Ending) (w' : World) : Prop :=
 ∃ (r : PathR) (A : Option Addr) (c : Nat),(err ≠ 0 → r = ⟨[],0,false⟩) ∧ (err = 0 → PathOk (nxX rs T ds tr [] id) (goalX rs gl) (tmX ds) (stX rs T room th) (nS rs T) r) ∧ e = .returned (.tuple #[.agg #[.slice A r.ks.length c,.int .i64 r.t],.bool r.is,.int .i64 err]) ∧ w'.ownsRow w.heap.size 9 1 (.slice A r.ks.length c) r.ks.length (strs (r.ks.map (keyX ds))) ∧ Below w.heap.size w w'
theorem FrPost.bad {w w' : World} {rs : List RoomE} {ds : List DoorE} {T tr : List (List UInt8)} {gl room : List UInt8} {th : List (List UInt8)} {err : Int} (h : err ≠ 0) (hb : Below w.heap.size w w') : FrPost w rs ds T tr gl room th err (.returned (.tuple #[.agg #[.slice none 0 0,.int .i64 0],.bool false,.int .i64 err])) w' :=
 ⟨⟨[],0,false⟩,none,0,fun _ => rfl,fun e => absurd e h,rfl,World.ownsRow_nil _ _ _ _,hb⟩

set_option maxHeartbeats 8000000 in
set_option maxRecDepth 100000 in
theorem from_any (lo ca cd lo2 c2 lo3 pc : Nat) (A : Option Addr) (rs : List RoomE) (D : Option Addr) (ds : List DoorE) (st gl : List UInt8) (TR : Option Addr) (tr : List (List UInt8)) (room : List UInt8) (PA : Option Addr) (th : List (List UInt8)) (w : World) (hA : MapW w lo A rs D ds) (hr : Row w lo2 1 TR tr.length (strs tr)) (hrl : tr.length ≤ 1000000000) (hrt : Row w lo3 1 PA th.length (strs th)) (htl : th.length ≤ 1000000000) :
  Calls Tryz.prog 13 #[mapV A rs ca D ds cd st gl,.slice TR tr.length c2,.agg #[.string ⟨room.toArray⟩,.slice PA th.length pc]] w (FrPost w rs ds (onceT (allT rs ds)) tr gl room th (fromE rs ds st gl tr room th)):=by
 obtain ⟨T,hT⟩ : ∃ T,onceT (allT rs ds) = T:=⟨_,rfl⟩
 have HT:=Lib.hid hT
 rw [hT]
 have hC : McC w (((w.alloc (.cells #[.slice A rs.length ca,.slice D ds.length cd,.string ⟨st.toArray⟩,.string ⟨gl.toArray⟩] 29)).alloc (.cells #[.string ⟨room.toArray⟩,.slice PA th.length pc] 34)).alloc (.cells #[.slice none 0 0,.int .i64 0] 40)) w.heap.size lo A rs ca D ds cd st gl:=⟨((hA.alloc _).alloc _).alloc _,((Blk.new _ _ _).alloc _).alloc _,(by repeat (first | exact Below.refl _ _ | refine Below.alloc ?_ (by first | omega | (simp; omega) | simp) _ | refine below_drewN' ?_ _ | refine Below.drew ?_))⟩
 have HP : Hid (Blk (((w.alloc (.cells #[.slice A rs.length ca,.slice D ds.length cd,.string ⟨st.toArray⟩,.string ⟨gl.toArray⟩] 29)).alloc (.cells #[.string ⟨room.toArray⟩,.slice PA th.length pc] 34)).alloc (.cells #[.slice none 0 0,.int .i64 0] 40)) (w.heap.size + 1) 34 #[.string ⟨room.toArray⟩,.slice PA th.length pc] ∧ Blk (((w.alloc (.cells #[.slice A rs.length ca,.slice D ds.length cd,.string ⟨st.toArray⟩,.string ⟨gl.toArray⟩] 29)).alloc (.cells #[.string ⟨room.toArray⟩,.slice PA th.length pc] 34)).alloc (.cells #[.slice none 0 0,.int .i64 0] 40)) (w.heap.size + 2) 40 #[.slice none 0 0,.int .i64 0]):=Lib.hid ⟨(Blk.at_ _ (by simp)).alloc _,Blk.at_ _ (by simp)⟩
 have HRR:=Lib.hid hr
 have HRT:=Lib.hid hrt
 obtain ⟨err,herr⟩ : ∃ err,err = tricksE rs ds st gl tr:=⟨_,rfl⟩
 have HFE : Hid (fromE rs ds st gl tr room th = if err ≠ 0 then err else if room ∉ rs.map RoomE.key then 8 else wantE T th):=Lib.hid (by unfold fromE; rw [hT,herr])
 generalize fromE rs ds st gl tr room th = fe at *
 have HER:=Lib.hid herr
 clear hA hr hT herr hrt
 unfold mapV
 simp only [encStr]
 go_enter Tryz.func13,Tryz.ntmps13
 go_wp2_with fail
 obtain ⟨hq,hp⟩:=HP.out
 clear HP
 generalize (((w.alloc (.cells #[.slice A rs.length ca,.slice D ds.length cd,.string ⟨st.toArray⟩,.string ⟨gl.toArray⟩] 29)).alloc (.cells #[.string ⟨room.toArray⟩,.slice PA th.length pc] 34)).alloc (.cells #[.slice none 0 0,.int .i64 0] 40)) = W1 at *
 have hrz : w.heap.size ≤ w.heap.size + 2:=Nat.le_add_right _ _
 rw [show w.heap.size + 1 + 1 = w.heap.size + 2 from rfl]
 generalize w.heap.size + 2 = r at *
 generalize w.heap.size + 1 = qb at *
 have hct:=checkTricks_any lo ca cd A rs D ds st gl lo2 c2 TR tr W1 hC.m (HRR.out.below hC.b) hrl
 unfold mapV at hct
 simp only [encStr] at hct
 rw [← HER.out] at hct
 refine hct.mono ?_
 rintro e w2 ⟨rfl,hb⟩
 have hC:=hC.below hb
 have hp:=hp.below hb
 have hq:=hq.below hb
 clear hct hb
 by_cases h0 : err = 0
 ·subst h0
  have HR : Hid (Right rs ds st gl):=Lib.hid (right_of (tricks_right HER.out.symm))
  obtain ⟨q0,q1⟩:=hq.w2
  have zq:=hq.lt
  have hro:=room_any lo ca w.heap.size A rs D ds room w2 hC.m HR.out.rup hC.cells.1
  unfold encStr at hro
  go_wp2_with fail
  refine hro.mono ?_
  rintro e w3 ⟨rfl,hb⟩
  have hC:=hC.below hb
  have hp:=hp.below hb
  have hq:=hq.below hb
  clear hro hb q0 q1 zq
  by_cases hm : room ∈ rs.map RoomE.key
  ·have HFE2 : Hid (fe = wantE T th):=Lib.hid (by rw [HFE.out,if_neg (by simp),if_neg (by simpa using hm)])
   have hk : keyI (rs.map RoomE.key) room = (ixR rs room : Int):=roomI_mem hm
   rw [hk]
   have d1 : decide ((ixR rs room : Int) < 0) = false:=decide_eq_false (by omega)
   have HM:=Lib.hid hm
   clear hk hm
   obtain ⟨q0,q1⟩:=hq.w2
   have zq:=hq.lt
   have hwa:=wanted_any w.heap.size lo ca cd lo3 pc A rs D ds st gl PA th w w3 hC (HRT.out.below hC.b) htl HR.out.few
   rw [HT.out] at hwa
   rw [← HFE2.out] at hwa
   go_wp2_with fail
   refine hwa.mono ?_
   rintro e w4 ⟨rfl,hb⟩
   have hC:=hC.below hb
   have hp:=hp.below hb
   have hq:=hq.below hb
   clear hwa hb q0 q1 zq
   by_cases h1 : fe = 0
   ·subst h1
    have HWA:=Lib.hid (wantE_0 HFE2.out.symm)
    go_wp2_with fail
    refine (newWorld_any w.heap.size lo ca cd lo2 c2 A rs D ds st gl T TR tr [] w4 hC.m hC.bl HR.out HT.out (HRR.out.below hC.b) hrl).mono ?_
    rintro e w5 ⟨q,rfl,hW,_,hb⟩
    have hC:=hC.below hb
    have hp:=hp.below hb
    have hq:=hq.below hb
    have HW:=Lib.hid hW
    clear hb hW
    obtain ⟨q0,q1⟩:=hq.w2
    have zq:=hq.lt
    have hbi:=bits_any q.p q.tc w4.heap.size lo3 pc q.TA PA T th w5 HW.out.cells.2.1 HW.out.things (by rw [← HT.out]; exact (onceT_spec _).1) (by rw [← HT.out]; exact HR.out.few) (HRT.out.below hC.b) htl HWA.out.2
    go_wp2_with fail
    refine hbi.mono ?_
    rintro e w6 ⟨rfl,rfl⟩
    clear hbi q0 q1 zq
    have HGX : Hid (GoodX rs T (stX rs T room th)):=Lib.hid ⟨⟨room,HM.out,rfl⟩,⟨onceT th,⟨(onceT_spec _).1,fun x hx => HWA.out.2 x (((onceT_spec _).2 x).1 hx)⟩,(bitsT_once T th).symm⟩,Nat.zero_le _⟩
    go_wp2_with fail
    refine (exploreG_any (x0:=stX rs T room th) (w:=w) HW.out HR.out HT.out HGX.out hC.b (fun _ h => h) (fun t => see_ok _ t _ _ _ _) (fun t => goal_ok HW.out t _)).mono ?_
    rintro e w7 ⟨g,rfl,hE,hb⟩
    have hC:=hC.below hb
    have hp:=hp.below hb
    have z7:=hC.b.size
    clear hb hq
    go_wp2_with fail
    refine (path_g hE hC HR.out HT.out).mono ?_
    rintro e w8 ⟨r4,hok,PX,px,rfl,hown,hb⟩
    have hok:=Lib.hid hok
    have hC:=hC.below hb
    have hp:=hp.below hb
    have hks : (r4.ks.map (keyX ds)).length = r4.ks.length:=List.length_map ..
    have hown:=own_down9 hown z7
    rw [hks] at hown
    rw [hks]
    clear hks hE hb
    obtain ⟨KL,hKL⟩ : ∃ KL,KL = r4.ks.length:=⟨_,rfl⟩
    obtain ⟨KT,hKT⟩ : ∃ KT,KT = r4.t:=⟨_,rfl⟩
    obtain ⟨KI,hKI⟩ : ∃ KI,KI = r4.is:=⟨_,rfl⟩
    rw [← hKL] at hown ⊢
    rw [← hKT,← hKI]
    have HK:=Lib.hid (And.intro hKL (And.intro hKT hKI))
    clear hKL hKT hKI
    obtain ⟨u0,u1⟩:=hp.w2
    have fu0:=hp.thaw 0
    have fu1:=hp.thaw 1
    have zu:=hp.lt
    go_wp2_with fail
    have hr2 : Blk (((w8.setCell ⟨r,0,none⟩ (.slice PX KL px)).setCell ⟨r,1,none⟩ (.int .i64 KT)).alloc (.cells #[.slice PX KL px,.int .i64 KT] 40)) r 40 #[.slice PX KL px,.int .i64 KT]:=(show Blk _ _ _ _ by simpa using (hp.poke 0 (.slice PX KL px)).poke 1 (.int .i64 KT)).alloc _
    have hbel:=Below.setCell (Below.setCell hC.b (show w.heap.size ≤ (⟨r,0,none⟩ : Addr).block from hrz) (.slice PX KL px)) (show w.heap.size ≤ (⟨r,1,none⟩ : Addr).block from hrz) (.int .i64 KT)
    have HB : Hid (Below w.heap.size w (((w8.setCell ⟨r,0,none⟩ (.slice PX KL px)).setCell ⟨r,1,none⟩ (.int .i64 KT)).alloc (.cells #[.slice PX KL px,.int .i64 KT] 40))):=Lib.hid (hbel.alloc hbel.size _)
    have hd:=own_past (own_past hown hp (by decide) 0 (.slice PX KL px)) (hp.poke 0 (.slice PX KL px)) (by decide) 1 (.int .i64 KT)
    have HD : Hid ((((w8.setCell ⟨r,0,none⟩ (.slice PX KL px)).setCell ⟨r,1,none⟩ (.int .i64 KT)).alloc (.cells #[.slice PX KL px,.int .i64 KT] 40)).ownsRow w.heap.size 9 1 (.slice PX KL px) KL (strs (r4.ks.map (keyX ds)))):=Lib.hid (hd.alloc _)
    clear hbel
    generalize ((w8.setCell ⟨r,0,none⟩ (.slice PX KL px)).setCell ⟨r,1,none⟩ (.int .i64 KT)).alloc (.cells #[.slice PX KL px,.int .i64 KT] 40) = W5 at *
    obtain ⟨v0,v1⟩:=hr2.w2
    refine bodyPost_ret (v:=.tuple #[.agg #[.slice PX KL px,.int .i64 KT],.bool KI,.int .i64 0]) (by simp [results,Tryz.results13,go_sem,v0,v1]) rfl ?_
    obtain ⟨e1,e2,e3⟩:=HK.out
    subst e1 e2 e3
    exact ⟨r4,PX,px,fun h => absurd rfl h,fun _ => hok.out,rfl,HD.out,HB.out⟩
   ·obtain ⟨u0,u1⟩:=hp.w2
    have fu0:=hp.thaw 0
    have fu1:=hp.thaw 1
    have zu:=hp.lt
    have d2 : (fe != 0) = true:=bne_iff_ne.2 h1
    go_wp2_with fail
    have hr2 : Blk ((w4.setCell ⟨r,0,none⟩ (.slice none 0 0)).setCell ⟨r,1,none⟩ (.int .i64 0)) r 40 #[.slice none 0 0,.int .i64 0]:=(show Blk _ _ _ _ by simpa using (hp.poke 0 (.slice none 0 0)).poke 1 (.int .i64 0))
    have HB : Hid (Below w.heap.size w ((w4.setCell ⟨r,0,none⟩ (.slice none 0 0)).setCell ⟨r,1,none⟩ (.int .i64 0))):=Lib.hid (Below.setCell (Below.setCell hC.b (show w.heap.size ≤ (⟨r,0,none⟩ : Addr).block from hrz) (.slice none 0 0)) (show w.heap.size ≤ (⟨r,1,none⟩ : Addr).block from hrz) (.int .i64 0))
    generalize (w4.setCell ⟨r,0,none⟩ (.slice none 0 0)).setCell ⟨r,1,none⟩ (.int .i64 0) = W5 at *
    obtain ⟨v0,v1⟩:=hr2.w2
    refine bodyPost_ret (v:=.tuple #[.agg #[.slice none 0 0,.int .i64 0],.bool false,.int .i64 fe]) (by simp [results,Tryz.results13,go_sem,v0,v1]) rfl ?_
    exact FrPost.bad h1 HB.out
  ·obtain ⟨u0,u1⟩:=hp.w2
   have fu0:=hp.thaw 0
   have fu1:=hp.thaw 1
   have zu:=hp.lt
   have hk : keyI (rs.map RoomE.key) room = -1:=if_neg hm
   rw [hk]
   go_wp2_with fail
   have hr2 : Blk ((w3.setCell ⟨r,0,none⟩ (.slice none 0 0)).setCell ⟨r,1,none⟩ (.int .i64 0)) r 40 #[.slice none 0 0,.int .i64 0]:=(show Blk _ _ _ _ by simpa using (hp.poke 0 (.slice none 0 0)).poke 1 (.int .i64 0))
   have HB : Hid (Below w.heap.size w ((w3.setCell ⟨r,0,none⟩ (.slice none 0 0)).setCell ⟨r,1,none⟩ (.int .i64 0))):=Lib.hid (Below.setCell (Below.setCell hC.b (show w.heap.size ≤ (⟨r,0,none⟩ : Addr).block from hrz) (.slice none 0 0)) (show w.heap.size ≤ (⟨r,1,none⟩ : Addr).block from hrz) (.int .i64 0))
   generalize (w3.setCell ⟨r,0,none⟩ (.slice none 0 0)).setCell ⟨r,1,none⟩ (.int .i64 0) = W5 at *
   obtain ⟨v0,v1⟩:=hr2.w2
   refine bodyPost_ret (v:=.tuple #[.agg #[.slice none 0 0,.int .i64 0],.bool false,.int .i64 8]) (by simp [results,Tryz.results13,go_sem,v0,v1]) rfl ?_
   rw [HFE.out,if_neg (by simp),if_pos hm]
   exact FrPost.bad (by decide) HB.out
 ·obtain ⟨u0,u1⟩:=hp.w2
  have fu0:=hp.thaw 0
  have fu1:=hp.thaw 1
  have zu:=hp.lt
  have d0 : (err != 0) = true:=bne_iff_ne.2 h0
  go_wp2_with fail
  have hr2 : Blk ((w2.setCell ⟨r,0,none⟩ (.slice none 0 0)).setCell ⟨r,1,none⟩ (.int .i64 0)) r 40 #[.slice none 0 0,.int .i64 0]:=(show Blk _ _ _ _ by simpa using (hp.poke 0 (.slice none 0 0)).poke 1 (.int .i64 0))
  have HB : Hid (Below w.heap.size w ((w2.setCell ⟨r,0,none⟩ (.slice none 0 0)).setCell ⟨r,1,none⟩ (.int .i64 0))):=Lib.hid (Below.setCell (Below.setCell hC.b (show w.heap.size ≤ (⟨r,0,none⟩ : Addr).block from hrz) (.slice none 0 0)) (show w.heap.size ≤ (⟨r,1,none⟩ : Addr).block from hrz) (.int .i64 0))
  generalize (w2.setCell ⟨r,0,none⟩ (.slice none 0 0)).setCell ⟨r,1,none⟩ (.int .i64 0) = W5 at *
  obtain ⟨v0,v1⟩:=hr2.w2
  refine bodyPost_ret (v:=.tuple #[.agg #[.slice none 0 0,.int .i64 0],.bool false,.int .i64 err]) (by simp [results,Tryz.results13,go_sem,v0,v1]) rfl ?_
  rw [HFE.out,if_pos h0]
  exact FrPost.bad h0 HB.out

end Go.Proofs.YtpialnjfdbfkdaaGreatDoor
