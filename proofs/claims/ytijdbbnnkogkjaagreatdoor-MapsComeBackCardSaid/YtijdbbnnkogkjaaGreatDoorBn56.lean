/- Texts of this seat, laid together: Nw. -/
import Derived.Test.YtijdbbnnkogkjaaGreatDoorBn19
import Derived.Test.YtijdbbnnkogkjaaGreatDoorBn29
/- The walks of route.Text and splitref1.MapLines. -/
namespace Go.Proofs.YtijdbbnnkogkjaaGreatDoor
set_option linter.unusedVariables false
set_option linter.unusedSimpArgs false
open Go.RowKit Go.Sort

def mtV (rs : List RoomE) (ds : List DoorE) (st gl : List UInt8) : Value:=if mapE rs ds st gl = 0 then (if 200000 < (mapT rs ds st gl).length then .tuple #[.string ⟨#[]⟩,.int .i64 2] else .tuple #[encStr (mapT rs ds st gl),.int .i64 0]) else .tuple #[.string ⟨#[]⟩,.int .i64 (mapE rs ds st gl)]
theorem mtV_bad {rs : List RoomE} {ds : List DoorE} {st gl : List UInt8} {me : Int} (h : me = mapE rs ds st gl) (h0 : me ≠ 0) : mtV rs ds st gl = .tuple #[.string ⟨#[]⟩,.int .i64 me]:=by
 unfold mtV; rw [← h,if_neg h0]
theorem mtV_large {rs : List RoomE} {ds : List DoorE} {st gl : List UInt8} {me : Int} {t : List UInt8} (h : me = mapE rs ds st gl) (h0 : me = 0) (ht : t = mapT rs ds st gl) (hl : 200000 < t.length) : mtV rs ds st gl = .tuple #[.string ⟨#[]⟩,.int .i64 2]:=by
 unfold mtV; rw [← h,if_pos h0,← ht,if_pos hl]
theorem mtV_ok {rs : List RoomE} {ds : List DoorE} {st gl : List UInt8} {me : Int} {t : List UInt8} (h : me = mapE rs ds st gl) (h0 : me = 0) (ht : t = mapT rs ds st gl) (hl : ¬ 200000 < t.length) : mtV rs ds st gl = .tuple #[encStr t,.int .i64 0]:=by
 unfold mtV; rw [← h,if_pos h0,← ht,if_neg hl]
def MtPost (w : World) (v : Value) (e : Ending) (w' : World) : Prop:=e = .returned v ∧ Below w.heap.size w w'
theorem Blk.seven {w : World} {g : Nat} {t : TypeId} {a b c d e f h : Value} (k : Blk w g t #[a,b,c,d,e,f,h]) : w.cell? ⟨g,0,none⟩ = some a ∧ w.cell? ⟨g,1,none⟩ = some b ∧ w.cell? ⟨g,2,none⟩ = some c ∧ w.cell? ⟨g,3,none⟩ = some d ∧ w.cell? ⟨g,4,none⟩ = some e ∧ w.cell? ⟨g,5,none⟩ = some f ∧ w.cell? ⟨g,6,none⟩ = some h:=⟨by simpa using k.cell 0,by simpa using k.cell 1,by simpa using k.cell 2,by simpa using k.cell 3,by simpa using k.cell 4,by simpa using k.cell 5,by simpa using k.cell 6⟩
theorem Blk.four {w : World} {g : Nat} {t : TypeId} {a b c d : Value} (k : Blk w g t #[a,b,c,d]) : w.cell? ⟨g,0,none⟩ = some a ∧ w.cell? ⟨g,1,none⟩ = some b ∧ w.cell? ⟨g,2,none⟩ = some c ∧ w.cell? ⟨g,3,none⟩ = some d:=⟨by simpa using k.cell 0,by simpa using k.cell 1,by simpa using k.cell 2,by simpa using k.cell 3⟩
theorem hd_bytes (st gl : List UInt8) : (⟨#[109,97,112,32]⟩ : ByteArray) ++ ⟨st.toArray⟩ ++ ⟨#[32]⟩ ++ ⟨gl.toArray⟩ ++ ⟨#[10]⟩ = ⟨(hdLn st gl).toArray⟩:=by
 apply ByteArray.ext
 simp [hdLn,mapW,Lib.join_cons,Lib.joinTail]
theorem rm_bytes (p key com : List UInt8) : (⟨p.toArray⟩ : ByteArray) ++ (⟨#[114,111,111,109,32]⟩ ++ ⟨key.toArray⟩ ++ ⟨#[32]⟩ ++ ⟨com.toArray⟩ ++ ⟨#[10]⟩) = ⟨(p ++ (Lib.join [roomW,key,com] [32] ++ [10])).toArray⟩:=by
 apply ByteArray.ext
 simp [roomW,Lib.join_cons,Lib.joinTail]
theorem dr_bytes (p x : List UInt8) : (⟨p.toArray⟩ : ByteArray) ++ (⟨x.toArray⟩ ++ ⟨#[10]⟩) = ⟨(p ++ (x ++ [10])).toArray⟩:=by
 apply ByteArray.ext
 simp
set_option maxHeartbeats 8000000 in
set_option maxRecDepth 100000 in
theorem mText_any (lo ca cd : Nat) (A : Option Addr) (rs : List RoomE) (D : Option Addr) (ds : List DoorE) (st gl : List UInt8) (w : World) (hA : MapW w lo A rs D ds) (hst : st.length ≤ 1000000) (hgl : gl.length ≤ 1000000) (hE : Env w) :
  Calls Tryz.prog 19 #[mapV A rs ca D ds cd st gl] w (MtPost w (mtV rs ds st gl)):=by
 have hx : Below w.heap.size w (w.alloc (.cells #[.slice A rs.length ca,.slice D ds.length cd,.string ⟨st.toArray⟩,.string ⟨gl.toArray⟩] 29)):=(Below.refl _ w).alloc (Nat.le_refl _) _
 have hmb : Blk (w.alloc (.cells #[.slice A rs.length ca,.slice D ds.length cd,.string ⟨st.toArray⟩,.string ⟨gl.toArray⟩] 29)) w.heap.size 29 #[.slice A rs.length ca,.slice D ds.length cd,.string ⟨st.toArray⟩,.string ⟨gl.toArray⟩]:=Blk.new _ _ _
 have HRL : Hid (∀ k,k ≤ rs.length → (rmsT st gl rs k).length ≤ 2000010 + k * 1002001000):=Lib.hid (rmsT_len hA.s hst hgl)
 have HDL : Hid (∀ k,k ≤ ds.length → (drsT (rmsT st gl rs rs.length) ds k).length ≤ (rmsT st gl rs rs.length).length + k * 2005003000):=Lib.hid (drsT_len hA.s)
 have HRM : Hid (∀ k (hk : k < rs.length),(rmLn rs[k]).length ≤ 1002001000):=Lib.hid (fun k hk => rmLn_len hA.s hk)
 have HDR : Hid (∀ k (hk : k < ds.length),(drLn ds[k]).length ≤ 2005003000):=Lib.hid (fun k hk => drLn_len hA.s hk)
 have hrl:=hA.s.rl
 have hdl:=hA.s.dl
 obtain ⟨v,hv⟩ : ∃ v,v = mtV rs ds st gl:=⟨_,rfl⟩
 rw [← hv]
 have HV:=Lib.hid hv
 clear hv
 have HEA:=Lib.hid (hE.below hx)
 have HMA:=Lib.hid (hA.below hx)
 clear hA hE
 unfold mapV
 simp only [encStr]
 go_enter Tryz.func19,Tryz.ntmps19
 go_upto_region 1 with (fail)
 generalize w.alloc (.cells #[.slice A rs.length ca,.slice D ds.length cd,.string ⟨st.toArray⟩,.string ⟨gl.toArray⟩] 29) = w0 at *
 obtain ⟨me,hme⟩ : ∃ me,me = mapE rs ds st gl:=⟨_,rfl⟩
 have hcm:=checkMap_any lo ca cd A rs D ds st gl w0 HMA.out
 unfold mapV at hcm
 simp only [encStr] at hcm
 rw [← hme] at hcm
 have HME:=Lib.hid hme
 clear hme
 obtain ⟨m0,m1,m2,m3⟩:=hmb.four
 go_wp2_with fail
 refine hcm.mono ?_
 clear hcm m0 m1 m2 m3
 rintro e wz ⟨rfl,hb⟩
 have HMZ:=Lib.hid (HMA.out.below hb)
 have HEZ:=Lib.hid (HEA.out.below hb)
 have hmz:=hmb.below hb
 have hxz : Below w.heap.size w wz:=hx.trans (hb.mono (Nat.le_of_lt hmb.lt))
 have hmlt:=hmz.lt
 clear HMA HEA hmb hx hb
 by_cases h0 : me = 0
 rotate_left
 ·have h0' : (me != 0) = true:=bne_iff_ne.2 h0
  have HV2:=Lib.hid (HV.out.trans (mtV_bad HME.out h0))
  clear h0
  go_wp2_with fail
  go_returns
  exact ⟨by rw [HV2.out]; rfl,hxz⟩
 have h0' : (me != 0) = false:=by rw [h0]; rfl
 have HM0:=Lib.hid h0
 clear h0
 go_upto_region 5 with (fail)
 have hBn:=Bld.new wz wz.heap.size (Nat.le_refl _)
 have hyn : Below wz.heap.size wz (wz.alloc (.cells #[.pointer none,.slice none 0 0] 106)):=(Below.refl _ _).alloc (Nat.le_refl _) _
 have hyz : wz.heap.size < (wz.alloc (.cells #[.pointer none,.slice none 0 0] 106)).heap.size:=by simp
 generalize wz.alloc (.cells #[.pointer none,.slice none 0 0] 106) = w1 at *
 have HEN : Hid (∀ W,Below wz.heap.size wz W → Env W ∧ MapW W lo A rs D ds ∧ Blk W w.heap.size 29 #[.slice A rs.length ca,.slice D ds.length cd,.string ⟨st.toArray⟩,.string ⟨gl.toArray⟩] ∧ Below w.heap.size w W):=Lib.hid (fun W hW => ⟨HEZ.out.below hW,HMZ.out.below hW,hmz.below hW,hxz.trans (hW.mono (by omega))⟩)
 clear HEZ HMZ hmz hxz
 generalize wz.heap.size = B at *
 obtain ⟨m0,m1,m2,m3⟩:=(HEN.out _ hyn).2.2.1.four
 have hL : Blk (w1.alloc (.cells #[.string ⟨#[109,97,112]⟩,.string ⟨st.toArray⟩,.string ⟨gl.toArray⟩] 9)) w1.heap.size 9 #[.string ⟨#[109,97,112]⟩,.string ⟨st.toArray⟩,.string ⟨gl.toArray⟩]:=Blk.new _ _ _
 have hjl:=join3_len mapW st gl
 have hml : mapW.length = 3:=rfl
 have hln:=line_any B B 0 3 (some ⟨w1.heap.size,0,none⟩) [] [mapW,st,gl] _ (hBn.alloc (.cells #[.string ⟨#[109,97,112]⟩,.string ⟨st.toArray⟩,.string ⟨gl.toArray⟩] 9)) (by simp; omega) (Row.lit hL (Nat.zero_le _) rfl) (by simp) (by simp) (by simp) (by simp only [List.length_nil]; omega)
 simp only [List.length_cons,List.length_nil,List.nil_append,Nat.zero_add,Nat.reduceAdd] at hln
 have hy2 : Below B wz (w1.alloc (.cells #[.string ⟨#[109,97,112]⟩,.string ⟨st.toArray⟩,.string ⟨gl.toArray⟩] 9)):=hyn.alloc (by omega) _
 clear hL hjl hml
 go_wp2_with fail
 refine hln.mono ?_
 clear hln m0 m1 m2 m3
 rintro e w3 ⟨rfl,hB3,hb3,-⟩
 have hy3 : Below B wz w3:=hy2.trans hb3
 have hyz3 : B < w3.heap.size:=by have:=hb3.size; simp at this; omega
 have hB3 : Bld w3 B B (rmsT st gl rs 0):=hB3
 clear hBn hyn hyz hy2 hb3
 obtain ⟨m0,m1,m2,m3⟩:=(HEN.out _ hy3).2.2.1.four
 go_wp2_with fail
 go_loopw [28] (fun i wr => ∃ k : Nat,k ≤ rs.length ∧ i = .int .i64 k ∧ Bld wr B B (rmsT st gl rs k) ∧ Below B wz wr ∧ B < wr.heap.size) (fun i _ => rs.length - (intOf i).toNat)
 case atStart => exact ⟨0,Nat.zero_le _,rfl,hB3,hy3,hyz3⟩
 case round =>
  clear hB3 hy3 hyz3 m0 m1 m2 m3
  obtain ⟨k,hk,rfl,hB,hy,hyz⟩:=hrel
  by_cases hlt : k < rs.length
  ·obtain ⟨b,off,hAe,hbs,hc⟩:=(HEN.out _ hy).2.1.room (by omega)
   obtain ⟨c0,c1⟩:=hc k hlt
   have hgv:=(HEN.out _ hy).2.1.gives rs[k] (List.getElem_mem _)
   have hsg:=(HEN.out _ hy).2.1.s.rg rs[k] (List.getElem_mem _)
   have HN : Hid (rmsT st gl rs (k + 1) = rmsT st gl rs k ++ (Lib.join [roomW,rs[k].key,comT rs[k].gives] [32] ++ [10])):=Lib.hid (rmsT_next hlt)
   have hla:=HRL.out k hk
   have hll:=HRM.out k hlt
   unfold rmLn at hll
   rw [List.length_append] at hll
   have HAE:=Lib.hid hAe
   subst hAe
   clear hc
   generalize rmsT st gl rs k = pre at *
   generalize rs[k].key = key at *
   generalize rs[k].gives = gv at *
   generalize rs[k].B = rB at *
   generalize rs[k].c = rc at *
   simp only [encStr] at c0
   have HGV:=Lib.hid hgv
   have HSG:=Lib.hid hsg
   clear hgv hsg
   go_upto_region 10 with (fail)
   have kT : Blk (wr.alloc (.cells #[.string ⟨key.toArray⟩,.slice rB gv.length rc] 62)) wr.heap.size 62 #[.string ⟨key.toArray⟩,.slice rB gv.length rc]:=Blk.new _ _ _
   have hB4:=hB.alloc (.cells #[.string ⟨key.toArray⟩,.slice rB gv.length rc] 62)
   have hy4:=hy.alloc (by omega) (.cells #[.string ⟨key.toArray⟩,.slice rB gv.length rc] 62)
   have hyz4 : B < (wr.alloc (.cells #[.string ⟨key.toArray⟩,.slice rB gv.length rc] 62)).heap.size:=by simp; omega
   have hgv4:=HGV.out.1.alloc (.cells #[.string ⟨key.toArray⟩,.slice rB gv.length rc] 62)
   clear c0 c1 hB
   generalize wr.alloc (.cells #[.string ⟨key.toArray⟩,.slice rB gv.length rc] 62) = X at *
   have hne : wr.heap.size ≠ B:=by omega
   generalize wr.heap.size = bt at *
   have HBX : Hid (∀ W,Below X.heap.size X W → Bld W B B pre ∧ Row W lo 1 rB gv.length (strs gv) ∧ Blk W bt 62 #[.string ⟨key.toArray⟩,.slice rB gv.length rc] ∧ Below B wz W):=Lib.hid (fun W hW => ⟨hB4.below hW,hgv4.below hW,kT.below hW,hy4.trans (hW.mono (by omega))⟩)
   clear hB4 hgv4 kT hy4 hy
   have hbz : Below X.heap.size X X.drew:=below_drewN' (Below.refl _ _) 1
   have hsc:=(HBX.out _ hbz).2.2.1.two_

   refine wp_region_held_drew (S:=(fun w' => w'.cell? ⟨bt,0,none⟩ = some (.string ⟨key.toArray⟩) ∧ w'.cell? ⟨bt,1,none⟩ = some (.slice rB gv.length rc))) (by kernel_rfl) (hsc) (fun hHeld => ?_)
   (refine wpAnyH_take (i:=0) (v:=?_) (by (simp only [List.getElem?_toArray,List.getElem?_cons_zero]; rfl)) (by kernel_rfl) (by kernel_rfl) (by kernel_rfl) (by exact fun _ _ _ h => h) (Or.inl ⟨by rfl,?_⟩) (by assumption) ?_; (rotate_left 1; (intro w hSw; (try dsimp only at hSw); go_simp); (try with_reducible rfl)); (try simp only [Act.put,List.setIfInBounds_toArray,List.set_cons_zero,List.set_cons_succ]))
   (refine wpAnyH_take (i:=1) (v:=?_) (by (simp only [List.getElem?_toArray,List.getElem?_cons_succ,List.getElem?_cons_zero]; rfl)) (by kernel_rfl) (by kernel_rfl) (by kernel_rfl) (by exact fun _ _ _ h => h) (Or.inl ⟨by rfl,?_⟩) (by assumption) ?_; (rotate_left 1; (intro w hSw; (try dsimp only at hSw); go_simp); (try with_reducible rfl)); (try simp only [Act.put,List.setIfInBounds_toArray,List.set_cons_zero,List.set_cons_succ]))
   (refine wpAnyH_take (i:=2) (v:=?_) (by (simp only [List.getElem?_toArray,List.getElem?_cons_succ,List.getElem?_cons_zero]; rfl)) (by kernel_rfl) (by kernel_rfl) (by kernel_rfl) (by exact fun _ _ _ h => h) (Or.inl ⟨by rfl,?_⟩) (by assumption) ?_; (rotate_left 1; (intro w hSw; (try dsimp only at hSw); go_simp); (try with_reducible rfl)); (try simp only [Act.put,List.setIfInBounds_toArray,List.set_cons_zero,List.set_cons_succ]))
   (refine wpAnyH_take (i:=3) (v:=?_) (by (simp only [List.getElem?_toArray,List.getElem?_cons_succ,List.getElem?_cons_zero]; rfl)) (by kernel_rfl) (by kernel_rfl) (by kernel_rfl) (by exact fun _ _ _ h => h) (Or.inl ⟨by rfl,?_⟩) (by assumption) ?_; (rotate_left 1; (intro w hSw; (try dsimp only at hSw); go_simp); (try with_reducible rfl)); (try simp only [Act.put,List.setIfInBounds_toArray,List.set_cons_zero,List.set_cons_succ]))
   (refine wpAnyH_take (i:=4) (v:=?_) (by (simp only [List.getElem?_toArray,List.getElem?_cons_succ,List.getElem?_cons_zero]; rfl)) (by kernel_rfl) (by kernel_rfl) (by kernel_rfl) (by exact fun _ _ _ h => h) (Or.inl ⟨by rfl,?_⟩) (by assumption) ?_; (rotate_left 1; (intro w hSw; (try dsimp only at hSw); go_simp); (try with_reducible rfl)); (try simp only [Act.put,List.setIfInBounds_toArray,List.set_cons_zero,List.set_cons_succ]))
   refine wpAnyH_ready (rs:=[5]) (by kernel_rfl) (by simp) ?_
   refine AllReadyH.cons rfl (fun K hK => ?_) AllReadyH.nil
   go_simp
   go_at_call 64
   refine (commas_any rB rc lo gv _ (HBX.out _ hbz).2.1 HSG.out.1 HGV.out.2 HSG.out.2).mono ?_
   rintro e w5 ⟨rfl,hb⟩
   replace hbz:=hbz.trans (hb.mono hbz.size)
   have hsc:=(HBX.out _ hbz).2.2.1.two_
   clear hb
   generalize comT gv = com at *
   go_wp2_with fail
   refine hK.out _ _ (hsc) (fun hHeld => ?_)
   clear hK K
   (try simp only [Act.put,List.setIfInBounds_toArray,List.set_cons_zero,List.set_cons_succ])
   refine wpAnyH_ready (rs:=[6]) (by kernel_rfl) (by simp) ?_
   refine AllReadyH.cons rfl (fun K hK => ?_) AllReadyH.nil
   go_simp
   have hL : Blk (w5.alloc (.cells #[.string ⟨#[114,111,111,109]⟩,.string ⟨key.toArray⟩,.string ⟨com.toArray⟩] 9)) w5.heap.size 9 #[.string ⟨#[114,111,111,109]⟩,.string ⟨key.toArray⟩,.string ⟨com.toArray⟩]:=Blk.new _ _ _
   replace hbz:=hbz.alloc hbz.size (.cells #[.string ⟨#[114,111,111,109]⟩,.string ⟨key.toArray⟩,.string ⟨com.toArray⟩] 9)
   have hsc:=(HBX.out _ hbz).2.2.1.two_
   refine hK.out _ _ (hsc) (fun hHeld => ?_)
   clear hK K
   (try simp only [Act.put,List.setIfInBounds_toArray,List.set_cons_zero,List.set_cons_succ])
   refine wpAnyH_ready (rs:=[7]) (by kernel_rfl) (by simp) ?_
   refine AllReadyH.cons rfl (fun K hK => ?_) AllReadyH.nil
   go_simp
   go_at_call 61
   have hln:=line_any B B 0 3 (some ⟨w5.heap.size,0,none⟩) pre [roomW,key,com] _ (HBX.out _ hbz).1 (by have:=hbz.size; omega) (Row.lit hL (Nat.zero_le _) rfl) (by simp) (by simp) (by simp) (by simp only [List.length_cons,List.length_nil] at hll; omega)
   simp only [List.length_cons,List.length_nil,Nat.zero_add,Nat.reduceAdd] at hln
   refine hln.mono ?_
   clear hln
   rintro e w7 ⟨rfl,hB7,hb7,hw7⟩
   have hsc:=((HBX.out _ hbz).2.2.1.wrote hw7 hne (by decide)).two_
   have hy7:=(HBX.out _ hbz).2.2.2.trans hb7
   have hyz7 : B < w7.heap.size:=by have:=hbz.size; have:=hb7.size; omega
   rw [← HN.out] at hB7
   clear hbz hb7 hw7
   go_wp2_with fail
   refine hK.out _ _ (hsc) (fun hHeld => ?_)
   clear hK K
   (try simp only [Act.put,List.setIfInBounds_toArray,List.set_cons_zero,List.set_cons_succ])
   refine wpAnyH_done (by kernel_rfl) ?_ _
   go_wp2_with fail
   go_roundw
   case rel => exact ⟨k + 1,by omega,by go_num,hB7,hy7,hyz7⟩
   case measure => simp [intOf]; omega
  ·have hke : k = rs.length:=by omega
   subst hke
   obtain ⟨m0,m1,m2,m3⟩:=(HEN.out _ hy).2.2.1.four
   obtain ⟨h0,hh0⟩ : ∃ h0,h0 = rmsT st gl rs rs.length:=⟨_,rfl⟩
   have hla:=HRL.out rs.length (Nat.le_refl _)
   rw [← hh0] at hB hla
   have HDL2 : Hid (∀ k,k ≤ ds.length → (drsT h0 ds k).length ≤ h0.length + k * 2005003000):=Lib.hid (by rw [hh0]; exact HDL.out)
   have HMT : Hid (mapT rs ds st gl = drsT h0 ds ds.length):=Lib.hid (by rw [hh0]; rfl)
   clear hh0 HDL HRL HRM
   have hB : Bld wr B B (drsT h0 ds 0):=hB
   go_wp2_with fail
   go_loopw [44] (fun i wr => ∃ k : Nat,k ≤ ds.length ∧ i = .int .i64 k ∧ Bld wr B B (drsT h0 ds k) ∧ Below B wz wr ∧ B < wr.heap.size) (fun i _ => ds.length - (intOf i).toNat)
   case atStart => exact ⟨0,Nat.zero_le _,rfl,hB,hy,hyz⟩
   case round =>
    clear hB hy hyz m0 m1 m2 m3
    obtain ⟨k,hk,rfl,hB,hy,hyz⟩:=hrel
    by_cases hlt : k < ds.length
    ·obtain ⟨b,off,hAe,hbs,hc⟩:=(HEN.out _ hy).2.1.door (by omega)
     obtain ⟨c0,c1,c2,c3,c4,c5,c6⟩:=hc k hlt
     have hdn:=(HEN.out _ hy).2.1.needs ds[k] (List.getElem_mem _)
     have hdt:=(HEN.out _ hy).2.1.takes ds[k] (List.getElem_mem _)
     have hsn:=(HEN.out _ hy).2.1.s.dn ds[k] (List.getElem_mem _)
     have hsx:=(HEN.out _ hy).2.1.s.dx ds[k] (List.getElem_mem _)
     have hit:=(HEN.out _ hy).2.1.s.dt ds[k] (List.getElem_mem _)
     have HN : Hid (drsT h0 ds (k + 1) = drsT h0 ds k ++ (Lib.join [doorW,ds[k].key,ds[k].src,ds[k].dst,Lib.itoa ds[k].time,comT ds[k].needs,comT ds[k].takes,trT ds[k].trick] [32] ++ [10])):=Lib.hid (drsT_next hlt)
     have hlb:=HDL2.out k hk
     have hll:=HDR.out k hlt
     unfold drLn at hll
     rw [List.length_append] at hll
     subst hAe
     clear hc
     generalize drsT h0 ds k = pre at *
     generalize ds[k].key = key at *
     generalize ds[k].src = src at *
     generalize ds[k].dst = dst at *
     generalize ds[k].time = tm at *
     generalize ds[k].needs = nd at *
     generalize ds[k].takes = tk at *
     generalize ds[k].trick = trk at *
     generalize ds[k].N = nB at *
     generalize ds[k].nc = nc at *
     generalize ds[k].T = tB at *
     generalize ds[k].tc = tc at *
     simp only [encStr] at c0 c1 c2 c6
     have HND:=Lib.hid hdn
     have HTK:=Lib.hid hdt
     have HSN:=Lib.hid hsn
     have HSX:=Lib.hid hsx
     have HIT:=Lib.hid hit
     clear hdn hdt hsn hsx hit
     go_upto_region 15 with (fail)
     have kT : Blk (wr.alloc (.cells #[.string ⟨key.toArray⟩,.string ⟨src.toArray⟩,.string ⟨dst.toArray⟩,.int .i64 tm,.slice nB nd.length nc,.slice tB tk.length tc,.string ⟨trk.toArray⟩] 66)) wr.heap.size 66 #[.string ⟨key.toArray⟩,.string ⟨src.toArray⟩,.string ⟨dst.toArray⟩,.int .i64 tm,.slice nB nd.length nc,.slice tB tk.length tc,.string ⟨trk.toArray⟩]:=Blk.new _ _ _
     have hB4:=hB.alloc (.cells #[.string ⟨key.toArray⟩,.string ⟨src.toArray⟩,.string ⟨dst.toArray⟩,.int .i64 tm,.slice nB nd.length nc,.slice tB tk.length tc,.string ⟨trk.toArray⟩] 66)
     have hy4:=hy.alloc (by omega) (.cells #[.string ⟨key.toArray⟩,.string ⟨src.toArray⟩,.string ⟨dst.toArray⟩,.int .i64 tm,.slice nB nd.length nc,.slice tB tk.length tc,.string ⟨trk.toArray⟩] 66)
     have hyz4 : B < (wr.alloc (.cells #[.string ⟨key.toArray⟩,.string ⟨src.toArray⟩,.string ⟨dst.toArray⟩,.int .i64 tm,.slice nB nd.length nc,.slice tB tk.length tc,.string ⟨trk.toArray⟩] 66)).heap.size:=by simp; omega
     have hnd4:=HND.out.1.alloc (.cells #[.string ⟨key.toArray⟩,.string ⟨src.toArray⟩,.string ⟨dst.toArray⟩,.int .i64 tm,.slice nB nd.length nc,.slice tB tk.length tc,.string ⟨trk.toArray⟩] 66)
     have htk4:=HTK.out.1.alloc (.cells #[.string ⟨key.toArray⟩,.string ⟨src.toArray⟩,.string ⟨dst.toArray⟩,.int .i64 tm,.slice nB nd.length nc,.slice tB tk.length tc,.string ⟨trk.toArray⟩] 66)
     clear c0 c1 c2 c3 c4 c5 c6 hB
     generalize wr.alloc (.cells #[.string ⟨key.toArray⟩,.string ⟨src.toArray⟩,.string ⟨dst.toArray⟩,.int .i64 tm,.slice nB nd.length nc,.slice tB tk.length tc,.string ⟨trk.toArray⟩] 66) = X at *
     have hne : wr.heap.size ≠ B:=by omega
     generalize wr.heap.size = bt at *
     have HBX : Hid (∀ W,Below X.heap.size X W → Bld W B B pre ∧ (Row W lo 1 nB nd.length (strs nd) ∧ Row W lo 1 tB tk.length (strs tk)) ∧ Blk W bt 66 #[.string ⟨key.toArray⟩,.string ⟨src.toArray⟩,.string ⟨dst.toArray⟩,.int .i64 tm,.slice nB nd.length nc,.slice tB tk.length tc,.string ⟨trk.toArray⟩] ∧ Below B wz W):=Lib.hid (fun W hW => ⟨hB4.below hW,⟨hnd4.below hW,htk4.below hW⟩,kT.below hW,hy4.trans (hW.mono (by omega))⟩)
     have k6:=kT.seven.2.2.2.2.2.2
     clear hB4 hnd4 htk4 kT hy4 hy

     by_cases htr : trk = []
     ·have hte : trT trk = [45]:=by unfold trT; rw [if_pos htr]
      rw [hte] at hll
      have HN : Hid (drsT h0 ds (k + 1) = pre ++ (Lib.join [doorW,key,src,dst,Lib.itoa tm,comT nd,comT tk,[45]] [32] ++ [10])):=Lib.hid (by rw [HN.out,hte])
      clear hte
      have d0 : trk.isEmpty = true:=by rw [htr]; rfl
      clear htr
      go_upto_region 18 with (fail)
      clear k6
      have hbz : Below X.heap.size X X.drew:=below_drewN' (Below.refl _ _) 1
      have hsc:=(HBX.out _ hbz).2.2.1.seven
      refine wp_region_held_drew (S:=(fun w' => w'.cell? ⟨bt,0,none⟩ = some (.string ⟨key.toArray⟩) ∧ w'.cell? ⟨bt,1,none⟩ = some (.string ⟨src.toArray⟩) ∧ w'.cell? ⟨bt,2,none⟩ = some (.string ⟨dst.toArray⟩) ∧ w'.cell? ⟨bt,3,none⟩ = some (.int .i64 tm) ∧ w'.cell? ⟨bt,4,none⟩ = some (.slice nB nd.length nc) ∧ w'.cell? ⟨bt,5,none⟩ = some (.slice tB tk.length tc) ∧ w'.cell? ⟨bt,6,none⟩ = some (.string ⟨trk.toArray⟩))) (by kernel_rfl) (hsc) (fun hHeld => ?_)
      (refine wpAnyH_take (i:=0) (v:=?_) (by (simp only [List.getElem?_toArray,List.getElem?_cons_zero]; rfl)) (by kernel_rfl) (by kernel_rfl) (by kernel_rfl) (by exact fun _ _ _ h => h) (Or.inl ⟨by rfl,?_⟩) (by assumption) ?_; (rotate_left 1; (intro w hSw; (try dsimp only at hSw); go_simp); (try with_reducible rfl)); (try simp only [Act.put,List.setIfInBounds_toArray,List.set_cons_zero,List.set_cons_succ]))
      (refine wpAnyH_take (i:=1) (v:=?_) (by (simp only [List.getElem?_toArray,List.getElem?_cons_succ,List.getElem?_cons_zero]; rfl)) (by kernel_rfl) (by kernel_rfl) (by kernel_rfl) (by exact fun _ _ _ h => h) (Or.inl ⟨by rfl,?_⟩) (by assumption) ?_; (rotate_left 1; (intro w hSw; (try dsimp only at hSw); go_simp); (try with_reducible rfl)); (try simp only [Act.put,List.setIfInBounds_toArray,List.set_cons_zero,List.set_cons_succ]))
      (refine wpAnyH_take (i:=2) (v:=?_) (by (simp only [List.getElem?_toArray,List.getElem?_cons_succ,List.getElem?_cons_zero]; rfl)) (by kernel_rfl) (by kernel_rfl) (by kernel_rfl) (by exact fun _ _ _ h => h) (Or.inl ⟨by rfl,?_⟩) (by assumption) ?_; (rotate_left 1; (intro w hSw; (try dsimp only at hSw); go_simp); (try with_reducible rfl)); (try simp only [Act.put,List.setIfInBounds_toArray,List.set_cons_zero,List.set_cons_succ]))
      (refine wpAnyH_take (i:=3) (v:=?_) (by (simp only [List.getElem?_toArray,List.getElem?_cons_succ,List.getElem?_cons_zero]; rfl)) (by kernel_rfl) (by kernel_rfl) (by kernel_rfl) (by exact fun _ _ _ h => h) (Or.inl ⟨by rfl,?_⟩) (by assumption) ?_; (rotate_left 1; (intro w hSw; (try dsimp only at hSw); go_simp); (try with_reducible rfl)); (try simp only [Act.put,List.setIfInBounds_toArray,List.set_cons_zero,List.set_cons_succ]))
      (refine wpAnyH_take (i:=4) (v:=?_) (by (simp only [List.getElem?_toArray,List.getElem?_cons_succ,List.getElem?_cons_zero]; rfl)) (by kernel_rfl) (by kernel_rfl) (by kernel_rfl) (by exact fun _ _ _ h => h) (Or.inl ⟨by rfl,?_⟩) (by assumption) ?_; (rotate_left 1; (intro w hSw; (try dsimp only at hSw); go_simp); (try with_reducible rfl)); (try simp only [Act.put,List.setIfInBounds_toArray,List.set_cons_zero,List.set_cons_succ]))
      (refine wpAnyH_take (i:=5) (v:=?_) (by (simp only [List.getElem?_toArray,List.getElem?_cons_succ,List.getElem?_cons_zero]; rfl)) (by kernel_rfl) (by kernel_rfl) (by kernel_rfl) (by exact fun _ _ _ h => h) (Or.inl ⟨by rfl,?_⟩) (by assumption) ?_; (rotate_left 1; (intro w hSw; (try dsimp only at hSw); go_simp); (try with_reducible rfl)); (try simp only [Act.put,List.setIfInBounds_toArray,List.set_cons_zero,List.set_cons_succ]))
      (refine wpAnyH_take (i:=6) (v:=?_) (by (simp only [List.getElem?_toArray,List.getElem?_cons_succ,List.getElem?_cons_zero]; rfl)) (by kernel_rfl) (by kernel_rfl) (by kernel_rfl) (by exact fun _ _ _ h => h) (Or.inl ⟨by rfl,?_⟩) (by assumption) ?_; (rotate_left 1; (intro w hSw; (try dsimp only at hSw); go_simp); (try with_reducible rfl)); (try simp only [Act.put,List.setIfInBounds_toArray,List.set_cons_zero,List.set_cons_succ]))
      (refine wpAnyH_take (i:=7) (v:=?_) (by (simp only [List.getElem?_toArray,List.getElem?_cons_succ,List.getElem?_cons_zero]; rfl)) (by kernel_rfl) (by kernel_rfl) (by kernel_rfl) (by exact fun _ _ _ h => h) (Or.inl ⟨by rfl,?_⟩) (by assumption) ?_; (rotate_left 1; (intro w hSw; (try dsimp only at hSw); go_simp); (try with_reducible rfl)); (try simp only [Act.put,List.setIfInBounds_toArray,List.set_cons_zero,List.set_cons_succ]))
      (refine wpAnyH_take (i:=8) (v:=?_) (by (simp only [List.getElem?_toArray,List.getElem?_cons_succ,List.getElem?_cons_zero]; rfl)) (by kernel_rfl) (by kernel_rfl) (by kernel_rfl) (by exact fun _ _ _ h => h) (Or.inl ⟨by rfl,?_⟩) (by assumption) ?_; (rotate_left 1; (intro w hSw; (try dsimp only at hSw); go_simp); (try with_reducible rfl)); (try simp only [Act.put,List.setIfInBounds_toArray,List.set_cons_zero,List.set_cons_succ]))
      (refine wpAnyH_take (i:=10) (v:=?_) (by (simp only [List.getElem?_toArray,List.getElem?_cons_succ,List.getElem?_cons_zero]; rfl)) (by kernel_rfl) (by kernel_rfl) (by kernel_rfl) (by exact fun _ _ _ h => h) (Or.inl ⟨by rfl,?_⟩) (by assumption) ?_; (rotate_left 1; (intro w hSw; (try dsimp only at hSw); go_simp); (try with_reducible rfl)); (try simp only [Act.put,List.setIfInBounds_toArray,List.set_cons_zero,List.set_cons_succ]))
      (refine wpAnyH_take (i:=11) (v:=?_) (by (simp only [List.getElem?_toArray,List.getElem?_cons_succ,List.getElem?_cons_zero]; rfl)) (by kernel_rfl) (by kernel_rfl) (by kernel_rfl) (by exact fun _ _ _ h => h) (Or.inl ⟨by rfl,?_⟩) (by assumption) ?_; (rotate_left 1; (intro w hSw; (try dsimp only at hSw); go_simp); (try with_reducible rfl)); (try simp only [Act.put,List.setIfInBounds_toArray,List.set_cons_zero,List.set_cons_succ]))
      (refine wpAnyH_take (i:=13) (v:=?_) (by (simp only [List.getElem?_toArray,List.getElem?_cons_succ,List.getElem?_cons_zero]; rfl)) (by kernel_rfl) (by kernel_rfl) (by kernel_rfl) (by exact fun _ _ _ h => h) (Or.inl ⟨by rfl,?_⟩) (by assumption) ?_; (rotate_left 1; (intro w hSw; (try dsimp only at hSw); go_simp); (try with_reducible rfl)); (try simp only [Act.put,List.setIfInBounds_toArray,List.set_cons_zero,List.set_cons_succ]))
      (refine wpAnyH_take (i:=14) (v:=?_) (by (simp only [List.getElem?_toArray,List.getElem?_cons_succ,List.getElem?_cons_zero]; rfl)) (by kernel_rfl) (by kernel_rfl) (by kernel_rfl) (by exact fun _ _ _ h => h) (Or.inl ⟨by rfl,?_⟩) (by assumption) ?_; (rotate_left 1; (intro w hSw; (try dsimp only at hSw); go_simp); (try with_reducible rfl)); (try simp only [Act.put,List.setIfInBounds_toArray,List.set_cons_zero,List.set_cons_succ]))
      (refine wpAnyH_take (i:=16) (v:=?_) (by (simp only [List.getElem?_toArray,List.getElem?_cons_succ,List.getElem?_cons_zero]; rfl)) (by kernel_rfl) (by kernel_rfl) (by kernel_rfl) (by exact fun _ _ _ h => h) (Or.inl ⟨by rfl,?_⟩) (by assumption) ?_; (rotate_left 1; (intro w hSw; (try dsimp only at hSw); go_simp); (try with_reducible rfl)); (try simp only [Act.put,List.setIfInBounds_toArray,List.set_cons_zero,List.set_cons_succ]))
      refine wpAnyH_ready (rs:=[9]) (by kernel_rfl) (by simp) ?_
      refine AllReadyH.cons rfl (fun K hK => ?_) AllReadyH.nil
      go_simp
      go_at_call 65
      refine (itoaE_any tm HIT.out.1 HIT.out.2 _ (HEN.out _ (HBX.out _ hbz).2.2.2).1).mono ?_
      rintro e w5 ⟨rfl,hb⟩
      replace hbz:=hbz.trans (hb.mono hbz.size)
      have hsc:=(HBX.out _ hbz).2.2.1.seven
      clear hb
      generalize Lib.itoa tm = ti at *
      go_wp2_with fail
      refine hK.out _ _ (hsc) (fun hHeld => ?_)
      clear hK K
      (try simp only [Act.put,List.setIfInBounds_toArray,List.set_cons_zero,List.set_cons_succ])
      refine wpAnyH_ready (rs:=[12]) (by kernel_rfl) (by simp) ?_
      refine AllReadyH.cons rfl (fun K hK => ?_) AllReadyH.nil
      go_simp
      go_at_call 64
      refine (commas_any nB nc lo nd _ (HBX.out _ hbz).2.1.1 HSN.out.1 HND.out.2 HSN.out.2).mono ?_
      rintro e w6 ⟨rfl,hb⟩
      replace hbz:=hbz.trans (hb.mono hbz.size)
      have hsc:=(HBX.out _ hbz).2.2.1.seven
      clear hb
      generalize comT nd = cn at *
      go_wp2_with fail
      refine hK.out _ _ (hsc) (fun hHeld => ?_)
      clear hK K
      (try simp only [Act.put,List.setIfInBounds_toArray,List.set_cons_zero,List.set_cons_succ])
      refine wpAnyH_ready (rs:=[15]) (by kernel_rfl) (by simp) ?_
      refine AllReadyH.cons rfl (fun K hK => ?_) AllReadyH.nil
      go_simp
      go_at_call 64
      refine (commas_any tB tc lo tk _ (HBX.out _ hbz).2.1.2 HSX.out.1 HTK.out.2 HSX.out.2).mono ?_
      rintro e w7 ⟨rfl,hb⟩
      replace hbz:=hbz.trans (hb.mono hbz.size)
      have hsc:=(HBX.out _ hbz).2.2.1.seven
      clear hb
      generalize comT tk = ck at *
      go_wp2_with fail
      refine hK.out _ _ (hsc) (fun hHeld => ?_)
      clear hK K
      (try simp only [Act.put,List.setIfInBounds_toArray,List.set_cons_zero,List.set_cons_succ])
      refine wpAnyH_ready (rs:=[17]) (by kernel_rfl) (by simp) ?_
      refine AllReadyH.cons rfl (fun K hK => ?_) AllReadyH.nil
      go_simp
      have hL : Blk (w7.alloc (.cells #[.string ⟨#[100,111,111,114]⟩,.string ⟨key.toArray⟩,.string ⟨src.toArray⟩,.string ⟨dst.toArray⟩,.string ⟨ti.toArray⟩,.string ⟨cn.toArray⟩,.string ⟨ck.toArray⟩,.string ⟨#[45]⟩] 9)) w7.heap.size 9 #[.string ⟨#[100,111,111,114]⟩,.string ⟨key.toArray⟩,.string ⟨src.toArray⟩,.string ⟨dst.toArray⟩,.string ⟨ti.toArray⟩,.string ⟨cn.toArray⟩,.string ⟨ck.toArray⟩,.string ⟨#[45]⟩]:=Blk.new _ _ _
      replace hbz:=hbz.alloc hbz.size (.cells #[.string ⟨#[100,111,111,114]⟩,.string ⟨key.toArray⟩,.string ⟨src.toArray⟩,.string ⟨dst.toArray⟩,.string ⟨ti.toArray⟩,.string ⟨cn.toArray⟩,.string ⟨ck.toArray⟩,.string ⟨#[45]⟩] 9)
      have hsc:=(HBX.out _ hbz).2.2.1.seven
      refine hK.out _ _ (hsc) (fun hHeld => ?_)
      clear hK K
      (try simp only [Act.put,List.setIfInBounds_toArray,List.set_cons_zero,List.set_cons_succ])
      refine wpAnyH_ready (rs:=[18]) (by kernel_rfl) (by simp) ?_
      refine AllReadyH.cons rfl (fun K hK => ?_) AllReadyH.nil
      go_simp
      go_at_call 61
      have hln:=line_any B B 0 8 (some ⟨w7.heap.size,0,none⟩) pre [doorW,key,src,dst,ti,cn,ck,[45]] _ (HBX.out _ hbz).1 (by have:=hbz.size; omega) (Row.lit hL (Nat.zero_le _) rfl) (by simp) (by simp) (by simp) (by simp only [List.length_cons,List.length_nil] at hll; omega)
      simp only [List.length_cons,List.length_nil,Nat.zero_add,Nat.reduceAdd] at hln
      refine hln.mono ?_
      clear hln
      rintro e w8 ⟨rfl,hB7,hb7,hw7⟩
      have hsc:=((HBX.out _ hbz).2.2.1.wrote hw7 hne (by decide)).seven
      have hy7:=(HBX.out _ hbz).2.2.2.trans hb7
      have hyz7 : B < w8.heap.size:=by have:=hbz.size; have:=hb7.size; omega
      rw [← HN.out] at hB7
      clear hbz hb7 hw7
      go_wp2_with fail
      refine hK.out _ _ (hsc) (fun hHeld => ?_)
      clear hK K
      (try simp only [Act.put,List.setIfInBounds_toArray,List.set_cons_zero,List.set_cons_succ])
      refine wpAnyH_done (by kernel_rfl) ?_ _
      go_wp2_with fail
      go_roundw
      case rel => exact ⟨k + 1,by omega,by go_num,hB7,hy7,hyz7⟩
      case measure => simp [intOf]; omega
     ·have hte : trT trk = trk:=by unfold trT; rw [if_neg htr]
      rw [hte] at hll
      have HN : Hid (drsT h0 ds (k + 1) = pre ++ (Lib.join [doorW,key,src,dst,Lib.itoa tm,comT nd,comT tk,trk] [32] ++ [10])):=Lib.hid (by rw [HN.out,hte])
      clear hte
      have d0 : trk.isEmpty = false:=by cases trk with
       | nil => exact absurd rfl htr
       | cons x l => rfl
      clear htr
      go_upto_region 18 with (fail)
      clear k6
      have hbz : Below X.heap.size X X.drew:=below_drewN' (Below.refl _ _) 1
      have hsc:=(HBX.out _ hbz).2.2.1.seven
      refine wp_region_held_drew (S:=(fun w' => w'.cell? ⟨bt,0,none⟩ = some (.string ⟨key.toArray⟩) ∧ w'.cell? ⟨bt,1,none⟩ = some (.string ⟨src.toArray⟩) ∧ w'.cell? ⟨bt,2,none⟩ = some (.string ⟨dst.toArray⟩) ∧ w'.cell? ⟨bt,3,none⟩ = some (.int .i64 tm) ∧ w'.cell? ⟨bt,4,none⟩ = some (.slice nB nd.length nc) ∧ w'.cell? ⟨bt,5,none⟩ = some (.slice tB tk.length tc) ∧ w'.cell? ⟨bt,6,none⟩ = some (.string ⟨trk.toArray⟩))) (by kernel_rfl) (hsc) (fun hHeld => ?_)
      (refine wpAnyH_take (i:=0) (v:=?_) (by (simp only [List.getElem?_toArray,List.getElem?_cons_zero]; rfl)) (by kernel_rfl) (by kernel_rfl) (by kernel_rfl) (by exact fun _ _ _ h => h) (Or.inl ⟨by rfl,?_⟩) (by assumption) ?_; (rotate_left 1; (intro w hSw; (try dsimp only at hSw); go_simp); (try with_reducible rfl)); (try simp only [Act.put,List.setIfInBounds_toArray,List.set_cons_zero,List.set_cons_succ]))
      (refine wpAnyH_take (i:=1) (v:=?_) (by (simp only [List.getElem?_toArray,List.getElem?_cons_succ,List.getElem?_cons_zero]; rfl)) (by kernel_rfl) (by kernel_rfl) (by kernel_rfl) (by exact fun _ _ _ h => h) (Or.inl ⟨by rfl,?_⟩) (by assumption) ?_; (rotate_left 1; (intro w hSw; (try dsimp only at hSw); go_simp); (try with_reducible rfl)); (try simp only [Act.put,List.setIfInBounds_toArray,List.set_cons_zero,List.set_cons_succ]))
      (refine wpAnyH_take (i:=2) (v:=?_) (by (simp only [List.getElem?_toArray,List.getElem?_cons_succ,List.getElem?_cons_zero]; rfl)) (by kernel_rfl) (by kernel_rfl) (by kernel_rfl) (by exact fun _ _ _ h => h) (Or.inl ⟨by rfl,?_⟩) (by assumption) ?_; (rotate_left 1; (intro w hSw; (try dsimp only at hSw); go_simp); (try with_reducible rfl)); (try simp only [Act.put,List.setIfInBounds_toArray,List.set_cons_zero,List.set_cons_succ]))
      (refine wpAnyH_take (i:=3) (v:=?_) (by (simp only [List.getElem?_toArray,List.getElem?_cons_succ,List.getElem?_cons_zero]; rfl)) (by kernel_rfl) (by kernel_rfl) (by kernel_rfl) (by exact fun _ _ _ h => h) (Or.inl ⟨by rfl,?_⟩) (by assumption) ?_; (rotate_left 1; (intro w hSw; (try dsimp only at hSw); go_simp); (try with_reducible rfl)); (try simp only [Act.put,List.setIfInBounds_toArray,List.set_cons_zero,List.set_cons_succ]))
      (refine wpAnyH_take (i:=4) (v:=?_) (by (simp only [List.getElem?_toArray,List.getElem?_cons_succ,List.getElem?_cons_zero]; rfl)) (by kernel_rfl) (by kernel_rfl) (by kernel_rfl) (by exact fun _ _ _ h => h) (Or.inl ⟨by rfl,?_⟩) (by assumption) ?_; (rotate_left 1; (intro w hSw; (try dsimp only at hSw); go_simp); (try with_reducible rfl)); (try simp only [Act.put,List.setIfInBounds_toArray,List.set_cons_zero,List.set_cons_succ]))
      (refine wpAnyH_take (i:=5) (v:=?_) (by (simp only [List.getElem?_toArray,List.getElem?_cons_succ,List.getElem?_cons_zero]; rfl)) (by kernel_rfl) (by kernel_rfl) (by kernel_rfl) (by exact fun _ _ _ h => h) (Or.inl ⟨by rfl,?_⟩) (by assumption) ?_; (rotate_left 1; (intro w hSw; (try dsimp only at hSw); go_simp); (try with_reducible rfl)); (try simp only [Act.put,List.setIfInBounds_toArray,List.set_cons_zero,List.set_cons_succ]))
      (refine wpAnyH_take (i:=6) (v:=?_) (by (simp only [List.getElem?_toArray,List.getElem?_cons_succ,List.getElem?_cons_zero]; rfl)) (by kernel_rfl) (by kernel_rfl) (by kernel_rfl) (by exact fun _ _ _ h => h) (Or.inl ⟨by rfl,?_⟩) (by assumption) ?_; (rotate_left 1; (intro w hSw; (try dsimp only at hSw); go_simp); (try with_reducible rfl)); (try simp only [Act.put,List.setIfInBounds_toArray,List.set_cons_zero,List.set_cons_succ]))
      (refine wpAnyH_take (i:=7) (v:=?_) (by (simp only [List.getElem?_toArray,List.getElem?_cons_succ,List.getElem?_cons_zero]; rfl)) (by kernel_rfl) (by kernel_rfl) (by kernel_rfl) (by exact fun _ _ _ h => h) (Or.inl ⟨by rfl,?_⟩) (by assumption) ?_; (rotate_left 1; (intro w hSw; (try dsimp only at hSw); go_simp); (try with_reducible rfl)); (try simp only [Act.put,List.setIfInBounds_toArray,List.set_cons_zero,List.set_cons_succ]))
      (refine wpAnyH_take (i:=8) (v:=?_) (by (simp only [List.getElem?_toArray,List.getElem?_cons_succ,List.getElem?_cons_zero]; rfl)) (by kernel_rfl) (by kernel_rfl) (by kernel_rfl) (by exact fun _ _ _ h => h) (Or.inl ⟨by rfl,?_⟩) (by assumption) ?_; (rotate_left 1; (intro w hSw; (try dsimp only at hSw); go_simp); (try with_reducible rfl)); (try simp only [Act.put,List.setIfInBounds_toArray,List.set_cons_zero,List.set_cons_succ]))
      (refine wpAnyH_take (i:=10) (v:=?_) (by (simp only [List.getElem?_toArray,List.getElem?_cons_succ,List.getElem?_cons_zero]; rfl)) (by kernel_rfl) (by kernel_rfl) (by kernel_rfl) (by exact fun _ _ _ h => h) (Or.inl ⟨by rfl,?_⟩) (by assumption) ?_; (rotate_left 1; (intro w hSw; (try dsimp only at hSw); go_simp); (try with_reducible rfl)); (try simp only [Act.put,List.setIfInBounds_toArray,List.set_cons_zero,List.set_cons_succ]))
      (refine wpAnyH_take (i:=11) (v:=?_) (by (simp only [List.getElem?_toArray,List.getElem?_cons_succ,List.getElem?_cons_zero]; rfl)) (by kernel_rfl) (by kernel_rfl) (by kernel_rfl) (by exact fun _ _ _ h => h) (Or.inl ⟨by rfl,?_⟩) (by assumption) ?_; (rotate_left 1; (intro w hSw; (try dsimp only at hSw); go_simp); (try with_reducible rfl)); (try simp only [Act.put,List.setIfInBounds_toArray,List.set_cons_zero,List.set_cons_succ]))
      (refine wpAnyH_take (i:=13) (v:=?_) (by (simp only [List.getElem?_toArray,List.getElem?_cons_succ,List.getElem?_cons_zero]; rfl)) (by kernel_rfl) (by kernel_rfl) (by kernel_rfl) (by exact fun _ _ _ h => h) (Or.inl ⟨by rfl,?_⟩) (by assumption) ?_; (rotate_left 1; (intro w hSw; (try dsimp only at hSw); go_simp); (try with_reducible rfl)); (try simp only [Act.put,List.setIfInBounds_toArray,List.set_cons_zero,List.set_cons_succ]))
      (refine wpAnyH_take (i:=14) (v:=?_) (by (simp only [List.getElem?_toArray,List.getElem?_cons_succ,List.getElem?_cons_zero]; rfl)) (by kernel_rfl) (by kernel_rfl) (by kernel_rfl) (by exact fun _ _ _ h => h) (Or.inl ⟨by rfl,?_⟩) (by assumption) ?_; (rotate_left 1; (intro w hSw; (try dsimp only at hSw); go_simp); (try with_reducible rfl)); (try simp only [Act.put,List.setIfInBounds_toArray,List.set_cons_zero,List.set_cons_succ]))
      (refine wpAnyH_take (i:=16) (v:=?_) (by (simp only [List.getElem?_toArray,List.getElem?_cons_succ,List.getElem?_cons_zero]; rfl)) (by kernel_rfl) (by kernel_rfl) (by kernel_rfl) (by exact fun _ _ _ h => h) (Or.inl ⟨by rfl,?_⟩) (by assumption) ?_; (rotate_left 1; (intro w hSw; (try dsimp only at hSw); go_simp); (try with_reducible rfl)); (try simp only [Act.put,List.setIfInBounds_toArray,List.set_cons_zero,List.set_cons_succ]))
      refine wpAnyH_ready (rs:=[9]) (by kernel_rfl) (by simp) ?_
      refine AllReadyH.cons rfl (fun K hK => ?_) AllReadyH.nil
      go_simp
      go_at_call 65
      refine (itoaE_any tm HIT.out.1 HIT.out.2 _ (HEN.out _ (HBX.out _ hbz).2.2.2).1).mono ?_
      rintro e w5 ⟨rfl,hb⟩
      replace hbz:=hbz.trans (hb.mono hbz.size)
      have hsc:=(HBX.out _ hbz).2.2.1.seven
      clear hb
      generalize Lib.itoa tm = ti at *
      go_wp2_with fail
      refine hK.out _ _ (hsc) (fun hHeld => ?_)
      clear hK K
      (try simp only [Act.put,List.setIfInBounds_toArray,List.set_cons_zero,List.set_cons_succ])
      refine wpAnyH_ready (rs:=[12]) (by kernel_rfl) (by simp) ?_
      refine AllReadyH.cons rfl (fun K hK => ?_) AllReadyH.nil
      go_simp
      go_at_call 64
      refine (commas_any nB nc lo nd _ (HBX.out _ hbz).2.1.1 HSN.out.1 HND.out.2 HSN.out.2).mono ?_
      rintro e w6 ⟨rfl,hb⟩
      replace hbz:=hbz.trans (hb.mono hbz.size)
      have hsc:=(HBX.out _ hbz).2.2.1.seven
      clear hb
      generalize comT nd = cn at *
      go_wp2_with fail
      refine hK.out _ _ (hsc) (fun hHeld => ?_)
      clear hK K
      (try simp only [Act.put,List.setIfInBounds_toArray,List.set_cons_zero,List.set_cons_succ])
      refine wpAnyH_ready (rs:=[15]) (by kernel_rfl) (by simp) ?_
      refine AllReadyH.cons rfl (fun K hK => ?_) AllReadyH.nil
      go_simp
      go_at_call 64
      refine (commas_any tB tc lo tk _ (HBX.out _ hbz).2.1.2 HSX.out.1 HTK.out.2 HSX.out.2).mono ?_
      rintro e w7 ⟨rfl,hb⟩
      replace hbz:=hbz.trans (hb.mono hbz.size)
      have hsc:=(HBX.out _ hbz).2.2.1.seven
      clear hb
      generalize comT tk = ck at *
      go_wp2_with fail
      refine hK.out _ _ (hsc) (fun hHeld => ?_)
      clear hK K
      (try simp only [Act.put,List.setIfInBounds_toArray,List.set_cons_zero,List.set_cons_succ])
      refine wpAnyH_ready (rs:=[17]) (by kernel_rfl) (by simp) ?_
      refine AllReadyH.cons rfl (fun K hK => ?_) AllReadyH.nil
      go_simp
      have hL : Blk (w7.alloc (.cells #[.string ⟨#[100,111,111,114]⟩,.string ⟨key.toArray⟩,.string ⟨src.toArray⟩,.string ⟨dst.toArray⟩,.string ⟨ti.toArray⟩,.string ⟨cn.toArray⟩,.string ⟨ck.toArray⟩,.string ⟨trk.toArray⟩] 9)) w7.heap.size 9 #[.string ⟨#[100,111,111,114]⟩,.string ⟨key.toArray⟩,.string ⟨src.toArray⟩,.string ⟨dst.toArray⟩,.string ⟨ti.toArray⟩,.string ⟨cn.toArray⟩,.string ⟨ck.toArray⟩,.string ⟨trk.toArray⟩]:=Blk.new _ _ _
      replace hbz:=hbz.alloc hbz.size (.cells #[.string ⟨#[100,111,111,114]⟩,.string ⟨key.toArray⟩,.string ⟨src.toArray⟩,.string ⟨dst.toArray⟩,.string ⟨ti.toArray⟩,.string ⟨cn.toArray⟩,.string ⟨ck.toArray⟩,.string ⟨trk.toArray⟩] 9)
      have hsc:=(HBX.out _ hbz).2.2.1.seven
      refine hK.out _ _ (hsc) (fun hHeld => ?_)
      clear hK K
      (try simp only [Act.put,List.setIfInBounds_toArray,List.set_cons_zero,List.set_cons_succ])
      refine wpAnyH_ready (rs:=[18]) (by kernel_rfl) (by simp) ?_
      refine AllReadyH.cons rfl (fun K hK => ?_) AllReadyH.nil
      go_simp
      go_at_call 61
      have hln:=line_any B B 0 8 (some ⟨w7.heap.size,0,none⟩) pre [doorW,key,src,dst,ti,cn,ck,trk] _ (HBX.out _ hbz).1 (by have:=hbz.size; omega) (Row.lit hL (Nat.zero_le _) rfl) (by simp) (by simp) (by simp) (by simp only [List.length_cons,List.length_nil] at hll; omega)
      simp only [List.length_cons,List.length_nil,Nat.zero_add,Nat.reduceAdd] at hln
      refine hln.mono ?_
      clear hln
      rintro e w8 ⟨rfl,hB7,hb7,hw7⟩
      have hsc:=((HBX.out _ hbz).2.2.1.wrote hw7 hne (by decide)).seven
      have hy7:=(HBX.out _ hbz).2.2.2.trans hb7
      have hyz7 : B < w8.heap.size:=by have:=hbz.size; have:=hb7.size; omega
      rw [← HN.out] at hB7
      clear hbz hb7 hw7
      go_wp2_with fail
      refine hK.out _ _ (hsc) (fun hHeld => ?_)
      clear hK K
      (try simp only [Act.put,List.setIfInBounds_toArray,List.set_cons_zero,List.set_cons_succ])
      refine wpAnyH_done (by kernel_rfl) ?_ _
      go_wp2_with fail
      go_roundw
      case rel => exact ⟨k + 1,by omega,by go_num,hB7,hy7,hyz7⟩
      case measure => simp [intOf]; omega
    ·have hke : k = ds.length:=by omega
     subst hke
     have hlb:=HDL2.out ds.length (Nat.le_refl _)
     obtain ⟨t,ht⟩ : ∃ t,t = drsT h0 ds ds.length:=⟨_,rfl⟩
     rw [← ht] at hB hlb
     have HT : Hid (t = mapT rs ds st gl):=Lib.hid (ht.trans HMT.out.symm)
     clear ht
     have hxw:=(HEN.out _ hy).2.2.2
     go_wp2_with fail
     refine (bldLen_any B B t _ hB).mono ?_
     rintro e w8 ⟨rfl,rfl⟩
     by_cases hl : 200000 < t.length
     ·have d0 : decide ((200000 : Int) < (t.length : Int)) = true:=decide_eq_true (by omega)
      have HV2:=Lib.hid (HV.out.trans (mtV_large HME.out HM0.out HT.out hl))
      clear hl
      go_wp2_with fail
      go_returns
      exact ⟨by rw [HV2.out]; rfl,hxw⟩
     ·have d0 : decide ((200000 : Int) < (t.length : Int)) = false:=decide_eq_false (by omega)
      have HV2:=Lib.hid (HV.out.trans (mtV_ok HME.out HM0.out HT.out hl))
      clear hl
      go_wp2_with fail
      refine (bldString_any B B t _ hB (by omega)).mono ?_
      rintro e w9 ⟨rfl,hb⟩
      go_wp2_with fail
      go_returns
      exact ⟨by rw [HV2.out]; rfl,hxw.trans (hb.mono (by omega))⟩
set_option maxHeartbeats 8000000 in
set_option maxRecDepth 100000 in
theorem mapLines_any (lo ca cd : Nat) (A : Option Addr) (rs : List RoomE) (D : Option Addr) (ds : List DoorE) (st gl : List UInt8) (w : World) (hA : MapW w lo A rs D ds) (hst : st.length ≤ 1000000) (hgl : gl.length ≤ 1000000) (hE : Env w) :
  Calls Tryz.prog 20 #[mapV A rs ca D ds cd st gl] w (MtPost w (encStr (mapT rs ds st gl))):=by
 have hx : Below w.heap.size w (w.alloc (.cells #[.slice A rs.length ca,.slice D ds.length cd,.string ⟨st.toArray⟩,.string ⟨gl.toArray⟩] 29)):=(Below.refl _ w).alloc (Nat.le_refl _) _
 have hmb : Blk (w.alloc (.cells #[.slice A rs.length ca,.slice D ds.length cd,.string ⟨st.toArray⟩,.string ⟨gl.toArray⟩] 29)) w.heap.size 29 #[.slice A rs.length ca,.slice D ds.length cd,.string ⟨st.toArray⟩,.string ⟨gl.toArray⟩]:=Blk.new _ _ _
 have HRL : Hid (∀ k,k ≤ rs.length → (rmsT st gl rs k).length ≤ 2000010 + k * 1002001000):=Lib.hid (rmsT_len hA.s hst hgl)
 have HDL : Hid (∀ k,k ≤ ds.length → (drsT (rmsT st gl rs rs.length) ds k).length ≤ (rmsT st gl rs rs.length).length + k * 2005003000):=Lib.hid (drsT_len hA.s)
 have HRM : Hid (∀ k (hk : k < rs.length),(rmLn rs[k]).length ≤ 1002001000):=Lib.hid (fun k hk => rmLn_len hA.s hk)
 have HDR : Hid (∀ k (hk : k < ds.length),(drLn ds[k]).length ≤ 2005003000):=Lib.hid (fun k hk => drLn_len hA.s hk)
 have hrl:=hA.s.rl
 have hdl:=hA.s.dl
 obtain ⟨mt,hmt⟩ : ∃ mt,mt = mapT rs ds st gl:=⟨_,rfl⟩
 rw [← hmt]
 have HMT:=Lib.hid hmt
 clear hmt
 have HEA:=Lib.hid (hE.below hx)
 have HMA:=Lib.hid (hA.below hx)
 clear hA hE
 unfold mapV
 simp only [encStr]
 go_enter Tryz.func20,Tryz.ntmps20
 go_upto_region 1 with (fail)
 generalize w.alloc (.cells #[.slice A rs.length ca,.slice D ds.length cd,.string ⟨st.toArray⟩,.string ⟨gl.toArray⟩] 29) = w0 at *
 have hmlt:=hmb.lt
 have HEN : Hid (∀ W,Below w0.heap.size w0 W → Env W ∧ MapW W lo A rs D ds ∧ Blk W w.heap.size 29 #[.slice A rs.length ca,.slice D ds.length cd,.string ⟨st.toArray⟩,.string ⟨gl.toArray⟩] ∧ Below w.heap.size w W):=Lib.hid (fun W hW => ⟨HEA.out.below hW,HMA.out.below hW,hmb.below hW,hx.trans (hW.mono (Nat.le_of_lt hmlt))⟩)
 obtain ⟨m0,m1,m2,m3⟩:=hmb.four
 clear HEA HMA hmb hx
 have c1 : ¬ (9223372036854775807 < 4 + st.length):=by omega
 have c2 : ¬ (9223372036854775807 < 4 + st.length + 1):=by omega
 have c3 : ¬ (9223372036854775807 < 4 + st.length + 1 + gl.length):=by omega
 have c4 : ¬ (9223372036854775807 < 4 + st.length + 1 + gl.length + 1):=by omega
 have hy0 : Below w0.heap.size w0 w0:=Below.refl _ _
 go_wp2_with fail
 rw [hd_bytes]
 clear c1 c2 c3 c4
 go_loopw [3,20] (fun tv i wr => ∃ k : Nat,k ≤ rs.length ∧ i = .int .i64 k ∧ tv = .string ⟨(rmsT st gl rs k).toArray⟩ ∧ Below w0.heap.size w0 wr) (fun _ i _ => rs.length - (intOf i).toNat)
 case atStart => exact ⟨0,Nat.zero_le _,rfl,rfl,hy0⟩
 case round =>
  clear hy0 m0 m1 m2 m3
  obtain ⟨k,hk,rfl,rfl,hy⟩:=hrel
  by_cases hlt : k < rs.length
  ·obtain ⟨b,off,hAe,hbs,hc⟩:=(HEN.out _ hy).2.1.room (by omega)
   obtain ⟨c0,c1⟩:=hc k hlt
   have hgv:=(HEN.out _ hy).2.1.gives rs[k] (List.getElem_mem _)
   have hsg:=(HEN.out _ hy).2.1.s.rg rs[k] (List.getElem_mem _)
   have HN : Hid (rmsT st gl rs (k + 1) = rmsT st gl rs k ++ (Lib.join [roomW,rs[k].key,comT rs[k].gives] [32] ++ [10])):=Lib.hid (rmsT_next hlt)
   have hla:=HRL.out k hk
   have hll:=HRM.out k hlt
   unfold rmLn at hll
   rw [List.length_append,join3_len] at hll
   subst hAe
   clear hc
   generalize rmsT st gl rs k = pre at *
   generalize rs[k].key = key at *
   generalize rs[k].gives = gv at *
   generalize rs[k].B = rB at *
   generalize rs[k].c = rc at *
   simp only [encStr] at c0
   have HGV:=Lib.hid hgv
   have HSG:=Lib.hid hsg
   clear hgv hsg
   go_upto_region 5 with (fail)
   have kT : Blk (wr.alloc (.cells #[.string ⟨key.toArray⟩,.slice rB gv.length rc] 62)) wr.heap.size 62 #[.string ⟨key.toArray⟩,.slice rB gv.length rc]:=Blk.new _ _ _
   have hy4:=hy.alloc hy.size (.cells #[.string ⟨key.toArray⟩,.slice rB gv.length rc] 62)
   have hgv4:=HGV.out.1.alloc (.cells #[.string ⟨key.toArray⟩,.slice rB gv.length rc] 62)
   clear c0 c1
   generalize wr.alloc (.cells #[.string ⟨key.toArray⟩,.slice rB gv.length rc] 62) = X at *
   generalize wr.heap.size = bt at *
   have HBX : Hid (∀ W,Below X.heap.size X W → Row W lo 1 rB gv.length (strs gv) ∧ Blk W bt 62 #[.string ⟨key.toArray⟩,.slice rB gv.length rc] ∧ Below w0.heap.size w0 W):=Lib.hid (fun W hW => ⟨hgv4.below hW,kT.below hW,hy4.trans (hW.mono hy4.size)⟩)
   clear hgv4 kT hy4 hy
   have hbz : Below X.heap.size X X.drew:=below_drewN' (Below.refl _ _) 1
   have hsc:=(HBX.out _ hbz).2.1.two_
   have c1 : ¬ (9223372036854775807 < 5 + key.length):=by omega
   have c2 : ¬ (9223372036854775807 < 5 + key.length + 1):=by omega

   refine wp_region_held_drew (S:=(fun w' => w'.cell? ⟨bt,0,none⟩ = some (.string ⟨key.toArray⟩) ∧ w'.cell? ⟨bt,1,none⟩ = some (.slice rB gv.length rc))) (by kernel_rfl) (hsc) (fun hHeld => ?_)
   (refine wpAnyH_take (i:=0) (v:=?_) (by (simp only [List.getElem?_toArray,List.getElem?_cons_zero]; rfl)) (by kernel_rfl) (by kernel_rfl) (by kernel_rfl) (by exact fun _ _ _ h => h) (Or.inl ⟨by rfl,?_⟩) (by assumption) ?_; (rotate_left 1; (intro w hSw; (try dsimp only at hSw); go_simp); (try with_reducible rfl)); (try simp only [Act.put,List.setIfInBounds_toArray,List.set_cons_zero,List.set_cons_succ]))
   (refine wpAnyH_take (i:=1) (v:=?_) (by (simp only [List.getElem?_toArray,List.getElem?_cons_succ,List.getElem?_cons_zero]; rfl)) (by kernel_rfl) (by kernel_rfl) (by kernel_rfl) (by exact fun _ _ _ h => h) (Or.inl ⟨by rfl,?_⟩) (by assumption) ?_; (rotate_left 1; (intro w hSw; (try dsimp only at hSw); go_simp); (try with_reducible rfl)); (try simp only [Act.put,List.setIfInBounds_toArray,List.set_cons_zero,List.set_cons_succ]))
   (refine wpAnyH_take (i:=2) (v:=?_) (by (simp only [List.getElem?_toArray,List.getElem?_cons_succ,List.getElem?_cons_zero]; rfl)) (by kernel_rfl) (by kernel_rfl) (by kernel_rfl) (by exact fun _ _ _ h => h) (Or.inl ⟨by rfl,?_⟩) (by assumption) ?_; (rotate_left 1; (intro w hSw; (try dsimp only at hSw); go_simp); (try with_reducible rfl)); (try simp only [Act.put,List.setIfInBounds_toArray,List.set_cons_zero,List.set_cons_succ]))
   (refine wpAnyH_take (i:=3) (v:=?_) (by (simp only [List.getElem?_toArray,List.getElem?_cons_succ,List.getElem?_cons_zero]; rfl)) (by kernel_rfl) (by kernel_rfl) (by kernel_rfl) (by exact fun _ _ _ h => h) (Or.inl ⟨by rfl,?_⟩) (by assumption) ?_; (rotate_left 1; (intro w hSw; (try dsimp only at hSw); go_simp); (try with_reducible rfl)); (try simp only [Act.put,List.setIfInBounds_toArray,List.set_cons_zero,List.set_cons_succ]))
   (refine wpAnyH_take (i:=4) (v:=?_) (by (simp only [List.getElem?_toArray,List.getElem?_cons_succ,List.getElem?_cons_zero]; rfl)) (by kernel_rfl) (by kernel_rfl) (by kernel_rfl) (by exact fun _ _ _ h => h) (Or.inl ⟨by rfl,?_⟩) (by assumption) ?_; (rotate_left 1; (intro w hSw; (try dsimp only at hSw); go_simp); (try with_reducible rfl)); (try simp only [Act.put,List.setIfInBounds_toArray,List.set_cons_zero,List.set_cons_succ]))
   (refine wpAnyH_take (i:=5) (v:=?_) (by (simp only [List.getElem?_toArray,List.getElem?_cons_succ,List.getElem?_cons_zero]; rfl)) (by kernel_rfl) (by kernel_rfl) (by kernel_rfl) (by exact fun _ _ _ h => h) (Or.inl ⟨by rfl,?_⟩) (by assumption) ?_; (rotate_left 1; (intro w hSw; (try dsimp only at hSw); go_simp); (try with_reducible rfl)); (try simp only [Act.put,List.setIfInBounds_toArray,List.set_cons_zero,List.set_cons_succ]))
   (refine wpAnyH_take (i:=6) (v:=?_) (by (simp only [List.getElem?_toArray,List.getElem?_cons_succ,List.getElem?_cons_zero]; rfl)) (by kernel_rfl) (by kernel_rfl) (by kernel_rfl) (by exact fun _ _ _ h => h) (Or.inl ⟨by rfl,?_⟩) (by assumption) ?_; (rotate_left 1; (intro w hSw; (try dsimp only at hSw); go_simp); (try with_reducible rfl)); (try simp only [Act.put,List.setIfInBounds_toArray,List.set_cons_zero,List.set_cons_succ]))
   refine wpAnyH_ready (rs:=[7]) (by kernel_rfl) (by simp) ?_
   refine AllReadyH.cons rfl (fun K hK => ?_) AllReadyH.nil
   go_simp
   go_at_call 68
   refine (rcommas_any rB rc lo gv _ (HBX.out _ hbz).1 HSG.out.1 HGV.out.2 HSG.out.2).mono ?_
   rintro e w5 ⟨rfl,hb⟩
   replace hbz:=hbz.trans (hb.mono hbz.size)
   have hsc:=(HBX.out _ hbz).2.1.two_
   clear hb
   generalize comT gv = com at *
   simp only [roomW,List.length_cons,List.length_nil] at hll
   have c3 : ¬ (9223372036854775807 < 5 + key.length + 1 + com.length):=by omega
   have c4 : ¬ (9223372036854775807 < 5 + key.length + 1 + com.length + 1):=by omega
   have c5 : ¬ (9223372036854775807 < pre.length + (5 + key.length + 1 + com.length + 1)):=by omega
   go_wp2_with fail
   refine hK.out _ _ (hsc) (fun hHeld => ?_)
   clear hK K
   (try simp only [Act.put,List.setIfInBounds_toArray,List.set_cons_zero,List.set_cons_succ])
   (refine wpAnyH_take (i:=8) (v:=?_) (by (simp only [List.getElem?_toArray,List.getElem?_cons_succ,List.getElem?_cons_zero]; rfl)) (by kernel_rfl) (by kernel_rfl) (by kernel_rfl) (by exact fun _ _ _ h => h) (Or.inl ⟨by rfl,?_⟩) (by assumption) ?_; (rotate_left 1; (intro w hSw; (try dsimp only at hSw); go_simp); (try with_reducible rfl)); (try simp only [Act.put,List.setIfInBounds_toArray,List.set_cons_zero,List.set_cons_succ]))
   (refine wpAnyH_take (i:=9) (v:=?_) (by (simp only [List.getElem?_toArray,List.getElem?_cons_succ,List.getElem?_cons_zero]; rfl)) (by kernel_rfl) (by kernel_rfl) (by kernel_rfl) (by exact fun _ _ _ h => h) (Or.inl ⟨by rfl,?_⟩) (by assumption) ?_; (rotate_left 1; (intro w hSw; (try dsimp only at hSw); go_simp); (try with_reducible rfl)); (try simp only [Act.put,List.setIfInBounds_toArray,List.set_cons_zero,List.set_cons_succ]))
   (refine wpAnyH_take (i:=10) (v:=?_) (by (simp only [List.getElem?_toArray,List.getElem?_cons_succ,List.getElem?_cons_zero]; rfl)) (by kernel_rfl) (by kernel_rfl) (by kernel_rfl) (by exact fun _ _ _ h => h) (Or.inl ⟨by rfl,?_⟩) (by assumption) ?_; (rotate_left 1; (intro w hSw; (try dsimp only at hSw); go_simp); (try with_reducible rfl)); (try simp only [Act.put,List.setIfInBounds_toArray,List.set_cons_zero,List.set_cons_succ]))
   (refine wpAnyH_take (i:=11) (v:=?_) (by (simp only [List.getElem?_toArray,List.getElem?_cons_succ,List.getElem?_cons_zero]; rfl)) (by kernel_rfl) (by kernel_rfl) (by kernel_rfl) (by exact fun _ _ _ h => h) (Or.inl ⟨by rfl,?_⟩) (by assumption) ?_; (rotate_left 1; (intro w hSw; (try dsimp only at hSw); go_simp); (try with_reducible rfl)); (try simp only [Act.put,List.setIfInBounds_toArray,List.set_cons_zero,List.set_cons_succ]))
   refine wpAnyH_done (by kernel_rfl) ?_ _
   go_wp2_with fail
   rw [rm_bytes,← HN.out]
   go_roundw
   case rel => exact ⟨k + 1,by omega,by go_num,rfl,(HBX.out _ hbz).2.2⟩
   case measure => simp [intOf]; omega
  ·have hke : k = rs.length:=by omega
   subst hke
   obtain ⟨m0,m1,m2,m3⟩:=(HEN.out _ hy).2.2.1.four
   obtain ⟨h0,hh0⟩ : ∃ h0,h0 = rmsT st gl rs rs.length:=⟨_,rfl⟩
   have hla:=HRL.out rs.length (Nat.le_refl _)
   rw [← hh0] at hla ⊢
   have HDL2 : Hid (∀ k,k ≤ ds.length → (drsT h0 ds k).length ≤ h0.length + k * 2005003000):=Lib.hid (by rw [hh0]; exact HDL.out)
   have HM2 : Hid (mt = drsT h0 ds ds.length):=Lib.hid (by rw [hh0]; exact HMT.out)
   clear hh0 HDL HRL HRM HMT
   go_wp2_with fail
   go_loopw [3,39] (fun tv i wr => ∃ k : Nat,k ≤ ds.length ∧ i = .int .i64 k ∧ tv = .string ⟨(drsT h0 ds k).toArray⟩ ∧ Below w0.heap.size w0 wr) (fun _ i _ => ds.length - (intOf i).toNat)
   case atStart => exact ⟨0,Nat.zero_le _,rfl,rfl,hy⟩
   case round =>
    clear hy m0 m1 m2 m3
    obtain ⟨k,hk,rfl,rfl,hy⟩:=hrel
    by_cases hlt : k < ds.length
    ·obtain ⟨b,off,hAe,hbs,hc⟩:=(HEN.out _ hy).2.1.door (by omega)
     obtain ⟨c0,c1,c2,c3,c4,c5,c6⟩:=hc k hlt
     have hdn:=(HEN.out _ hy).2.1.needs ds[k] (List.getElem_mem _)
     have hdt:=(HEN.out _ hy).2.1.takes ds[k] (List.getElem_mem _)
     have hsn:=(HEN.out _ hy).2.1.s.dn ds[k] (List.getElem_mem _)
     have hsx:=(HEN.out _ hy).2.1.s.dx ds[k] (List.getElem_mem _)
     have hit:=(HEN.out _ hy).2.1.s.dt ds[k] (List.getElem_mem _)
     have HN : Hid (drsT h0 ds (k + 1) = drsT h0 ds k ++ (Lib.join [doorW,ds[k].key,ds[k].src,ds[k].dst,Lib.itoa ds[k].time,comT ds[k].needs,comT ds[k].takes,trT ds[k].trick] [32] ++ [10])):=Lib.hid (drsT_next hlt)
     have hlb:=HDL2.out k hk
     have hll:=HDR.out k hlt
     unfold drLn at hll
     rw [List.length_append] at hll
     subst hAe
     clear hc
     generalize drsT h0 ds k = pre at *
     generalize ds[k].key = key at *
     generalize ds[k].src = src at *
     generalize ds[k].dst = dst at *
     generalize ds[k].time = tm at *
     generalize ds[k].needs = nd at *
     generalize ds[k].takes = tk at *
     generalize ds[k].trick = trk at *
     generalize ds[k].N = nB at *
     generalize ds[k].nc = nc at *
     generalize ds[k].T = tB at *
     generalize ds[k].tc = tc at *
     simp only [encStr] at c0 c1 c2 c6
     have HND:=Lib.hid hdn
     have HTK:=Lib.hid hdt
     have HSN:=Lib.hid hsn
     have HSX:=Lib.hid hsx
     have HIT:=Lib.hid hit
     clear hdn hdt hsn hsx hit
     go_upto_region 10 with (fail)
     have kT : Blk (wr.alloc (.cells #[.string ⟨key.toArray⟩,.string ⟨src.toArray⟩,.string ⟨dst.toArray⟩,.int .i64 tm,.slice nB nd.length nc,.slice tB tk.length tc,.string ⟨trk.toArray⟩] 66)) wr.heap.size 66 #[.string ⟨key.toArray⟩,.string ⟨src.toArray⟩,.string ⟨dst.toArray⟩,.int .i64 tm,.slice nB nd.length nc,.slice tB tk.length tc,.string ⟨trk.toArray⟩]:=Blk.new _ _ _
     have hy4:=hy.alloc hy.size (.cells #[.string ⟨key.toArray⟩,.string ⟨src.toArray⟩,.string ⟨dst.toArray⟩,.int .i64 tm,.slice nB nd.length nc,.slice tB tk.length tc,.string ⟨trk.toArray⟩] 66)
     have hnd4:=HND.out.1.alloc (.cells #[.string ⟨key.toArray⟩,.string ⟨src.toArray⟩,.string ⟨dst.toArray⟩,.int .i64 tm,.slice nB nd.length nc,.slice tB tk.length tc,.string ⟨trk.toArray⟩] 66)
     have htk4:=HTK.out.1.alloc (.cells #[.string ⟨key.toArray⟩,.string ⟨src.toArray⟩,.string ⟨dst.toArray⟩,.int .i64 tm,.slice nB nd.length nc,.slice tB tk.length tc,.string ⟨trk.toArray⟩] 66)
     clear c0 c1 c2 c3 c4 c5 c6
     generalize wr.alloc (.cells #[.string ⟨key.toArray⟩,.string ⟨src.toArray⟩,.string ⟨dst.toArray⟩,.int .i64 tm,.slice nB nd.length nc,.slice tB tk.length tc,.string ⟨trk.toArray⟩] 66) = X at *
     generalize wr.heap.size = bt at *
     have HBX : Hid (∀ W,Below X.heap.size X W → (Row W lo 1 nB nd.length (strs nd) ∧ Row W lo 1 tB tk.length (strs tk)) ∧ Blk W bt 66 #[.string ⟨key.toArray⟩,.string ⟨src.toArray⟩,.string ⟨dst.toArray⟩,.int .i64 tm,.slice nB nd.length nc,.slice tB tk.length tc,.string ⟨trk.toArray⟩] ∧ Below w0.heap.size w0 W):=Lib.hid (fun W hW => ⟨⟨hnd4.below hW,htk4.below hW⟩,kT.below hW,hy4.trans (hW.mono hy4.size)⟩)
     have k6:=kT.seven.2.2.2.2.2.2
     clear hnd4 htk4 kT hy4 hy

     by_cases htr : trk = []
     ·have hte : trT trk = [45]:=by unfold trT; rw [if_pos htr]
      rw [hte] at hll
      have HN : Hid (drsT h0 ds (k + 1) = pre ++ (Lib.join [doorW,key,src,dst,Lib.itoa tm,comT nd,comT tk,[45]] [32] ++ [10])):=Lib.hid (by rw [HN.out,hte])
      clear hte
      have d0 : trk.isEmpty = true:=by rw [htr]; rfl
      clear htr
      go_upto_region 13 with (fail)
      clear k6
      have hbz : Below X.heap.size X X.drew:=below_drewN' (Below.refl _ _) 1
      have hsc:=(HBX.out _ hbz).2.1.seven
      refine wp_region_held_drew (S:=(fun w' => w'.cell? ⟨bt,0,none⟩ = some (.string ⟨key.toArray⟩) ∧ w'.cell? ⟨bt,1,none⟩ = some (.string ⟨src.toArray⟩) ∧ w'.cell? ⟨bt,2,none⟩ = some (.string ⟨dst.toArray⟩) ∧ w'.cell? ⟨bt,3,none⟩ = some (.int .i64 tm) ∧ w'.cell? ⟨bt,4,none⟩ = some (.slice nB nd.length nc) ∧ w'.cell? ⟨bt,5,none⟩ = some (.slice tB tk.length tc) ∧ w'.cell? ⟨bt,6,none⟩ = some (.string ⟨trk.toArray⟩))) (by kernel_rfl) (hsc) (fun hHeld => ?_)
      (refine wpAnyH_take (i:=0) (v:=?_) (by (simp only [List.getElem?_toArray,List.getElem?_cons_zero]; rfl)) (by kernel_rfl) (by kernel_rfl) (by kernel_rfl) (by exact fun _ _ _ h => h) (Or.inl ⟨by rfl,?_⟩) (by assumption) ?_; (rotate_left 1; (intro w hSw; (try dsimp only at hSw); go_simp); (try with_reducible rfl)); (try simp only [Act.put,List.setIfInBounds_toArray,List.set_cons_zero,List.set_cons_succ]))
      (refine wpAnyH_take (i:=1) (v:=?_) (by (simp only [List.getElem?_toArray,List.getElem?_cons_succ,List.getElem?_cons_zero]; rfl)) (by kernel_rfl) (by kernel_rfl) (by kernel_rfl) (by exact fun _ _ _ h => h) (Or.inl ⟨by rfl,?_⟩) (by assumption) ?_; (rotate_left 1; (intro w hSw; (try dsimp only at hSw); go_simp); (try with_reducible rfl)); (try simp only [Act.put,List.setIfInBounds_toArray,List.set_cons_zero,List.set_cons_succ]))
      (refine wpAnyH_take (i:=2) (v:=?_) (by (simp only [List.getElem?_toArray,List.getElem?_cons_succ,List.getElem?_cons_zero]; rfl)) (by kernel_rfl) (by kernel_rfl) (by kernel_rfl) (by exact fun _ _ _ h => h) (Or.inl ⟨by rfl,?_⟩) (by assumption) ?_; (rotate_left 1; (intro w hSw; (try dsimp only at hSw); go_simp); (try with_reducible rfl)); (try simp only [Act.put,List.setIfInBounds_toArray,List.set_cons_zero,List.set_cons_succ]))
      (refine wpAnyH_take (i:=3) (v:=?_) (by (simp only [List.getElem?_toArray,List.getElem?_cons_succ,List.getElem?_cons_zero]; rfl)) (by kernel_rfl) (by kernel_rfl) (by kernel_rfl) (by exact fun _ _ _ h => h) (Or.inl ⟨by rfl,?_⟩) (by assumption) ?_; (rotate_left 1; (intro w hSw; (try dsimp only at hSw); go_simp); (try with_reducible rfl)); (try simp only [Act.put,List.setIfInBounds_toArray,List.set_cons_zero,List.set_cons_succ]))
      (refine wpAnyH_take (i:=4) (v:=?_) (by (simp only [List.getElem?_toArray,List.getElem?_cons_succ,List.getElem?_cons_zero]; rfl)) (by kernel_rfl) (by kernel_rfl) (by kernel_rfl) (by exact fun _ _ _ h => h) (Or.inl ⟨by rfl,?_⟩) (by assumption) ?_; (rotate_left 1; (intro w hSw; (try dsimp only at hSw); go_simp); (try with_reducible rfl)); (try simp only [Act.put,List.setIfInBounds_toArray,List.set_cons_zero,List.set_cons_succ]))
      (refine wpAnyH_take (i:=5) (v:=?_) (by (simp only [List.getElem?_toArray,List.getElem?_cons_succ,List.getElem?_cons_zero]; rfl)) (by kernel_rfl) (by kernel_rfl) (by kernel_rfl) (by exact fun _ _ _ h => h) (Or.inl ⟨by rfl,?_⟩) (by assumption) ?_; (rotate_left 1; (intro w hSw; (try dsimp only at hSw); go_simp); (try with_reducible rfl)); (try simp only [Act.put,List.setIfInBounds_toArray,List.set_cons_zero,List.set_cons_succ]))
      (refine wpAnyH_take (i:=6) (v:=?_) (by (simp only [List.getElem?_toArray,List.getElem?_cons_succ,List.getElem?_cons_zero]; rfl)) (by kernel_rfl) (by kernel_rfl) (by kernel_rfl) (by exact fun _ _ _ h => h) (Or.inl ⟨by rfl,?_⟩) (by assumption) ?_; (rotate_left 1; (intro w hSw; (try dsimp only at hSw); go_simp); (try with_reducible rfl)); (try simp only [Act.put,List.setIfInBounds_toArray,List.set_cons_zero,List.set_cons_succ]))
      (refine wpAnyH_take (i:=7) (v:=?_) (by (simp only [List.getElem?_toArray,List.getElem?_cons_succ,List.getElem?_cons_zero]; rfl)) (by kernel_rfl) (by kernel_rfl) (by kernel_rfl) (by exact fun _ _ _ h => h) (Or.inl ⟨by rfl,?_⟩) (by assumption) ?_; (rotate_left 1; (intro w hSw; (try dsimp only at hSw); go_simp); (try with_reducible rfl)); (try simp only [Act.put,List.setIfInBounds_toArray,List.set_cons_zero,List.set_cons_succ]))
      (refine wpAnyH_take (i:=8) (v:=?_) (by (simp only [List.getElem?_toArray,List.getElem?_cons_succ,List.getElem?_cons_zero]; rfl)) (by kernel_rfl) (by kernel_rfl) (by kernel_rfl) (by exact fun _ _ _ h => h) (Or.inl ⟨by rfl,?_⟩) (by assumption) ?_; (rotate_left 1; (intro w hSw; (try dsimp only at hSw); go_simp); (try with_reducible rfl)); (try simp only [Act.put,List.setIfInBounds_toArray,List.set_cons_zero,List.set_cons_succ]))
      (refine wpAnyH_take (i:=10) (v:=?_) (by (simp only [List.getElem?_toArray,List.getElem?_cons_succ,List.getElem?_cons_zero]; rfl)) (by kernel_rfl) (by kernel_rfl) (by kernel_rfl) (by exact fun _ _ _ h => h) (Or.inl ⟨by rfl,?_⟩) (by assumption) ?_; (rotate_left 1; (intro w hSw; (try dsimp only at hSw); go_simp); (try with_reducible rfl)); (try simp only [Act.put,List.setIfInBounds_toArray,List.set_cons_zero,List.set_cons_succ]))
      (refine wpAnyH_take (i:=11) (v:=?_) (by (simp only [List.getElem?_toArray,List.getElem?_cons_succ,List.getElem?_cons_zero]; rfl)) (by kernel_rfl) (by kernel_rfl) (by kernel_rfl) (by exact fun _ _ _ h => h) (Or.inl ⟨by rfl,?_⟩) (by assumption) ?_; (rotate_left 1; (intro w hSw; (try dsimp only at hSw); go_simp); (try with_reducible rfl)); (try simp only [Act.put,List.setIfInBounds_toArray,List.set_cons_zero,List.set_cons_succ]))
      (refine wpAnyH_take (i:=13) (v:=?_) (by (simp only [List.getElem?_toArray,List.getElem?_cons_succ,List.getElem?_cons_zero]; rfl)) (by kernel_rfl) (by kernel_rfl) (by kernel_rfl) (by exact fun _ _ _ h => h) (Or.inl ⟨by rfl,?_⟩) (by assumption) ?_; (rotate_left 1; (intro w hSw; (try dsimp only at hSw); go_simp); (try with_reducible rfl)); (try simp only [Act.put,List.setIfInBounds_toArray,List.set_cons_zero,List.set_cons_succ]))
      (refine wpAnyH_take (i:=14) (v:=?_) (by (simp only [List.getElem?_toArray,List.getElem?_cons_succ,List.getElem?_cons_zero]; rfl)) (by kernel_rfl) (by kernel_rfl) (by kernel_rfl) (by exact fun _ _ _ h => h) (Or.inl ⟨by rfl,?_⟩) (by assumption) ?_; (rotate_left 1; (intro w hSw; (try dsimp only at hSw); go_simp); (try with_reducible rfl)); (try simp only [Act.put,List.setIfInBounds_toArray,List.set_cons_zero,List.set_cons_succ]))
      (refine wpAnyH_take (i:=16) (v:=?_) (by (simp only [List.getElem?_toArray,List.getElem?_cons_succ,List.getElem?_cons_zero]; rfl)) (by kernel_rfl) (by kernel_rfl) (by kernel_rfl) (by exact fun _ _ _ h => h) (Or.inl ⟨by rfl,?_⟩) (by assumption) ?_; (rotate_left 1; (intro w hSw; (try dsimp only at hSw); go_simp); (try with_reducible rfl)); (try simp only [Act.put,List.setIfInBounds_toArray,List.set_cons_zero,List.set_cons_succ]))
      refine wpAnyH_ready (rs:=[9]) (by kernel_rfl) (by simp) ?_
      refine AllReadyH.cons rfl (fun K hK => ?_) AllReadyH.nil
      go_simp
      go_at_call 65
      refine (itoaE_any tm HIT.out.1 HIT.out.2 _ (HEN.out _ (HBX.out _ hbz).2.2).1).mono ?_
      rintro e w5 ⟨rfl,hb⟩
      replace hbz:=hbz.trans (hb.mono hbz.size)
      have hsc:=(HBX.out _ hbz).2.1.seven
      clear hb
      generalize Lib.itoa tm = ti at *
      go_wp2_with fail
      refine hK.out _ _ (hsc) (fun hHeld => ?_)
      clear hK K
      (try simp only [Act.put,List.setIfInBounds_toArray,List.set_cons_zero,List.set_cons_succ])
      refine wpAnyH_ready (rs:=[12]) (by kernel_rfl) (by simp) ?_
      refine AllReadyH.cons rfl (fun K hK => ?_) AllReadyH.nil
      go_simp
      go_at_call 68
      refine (rcommas_any nB nc lo nd _ (HBX.out _ hbz).1.1 HSN.out.1 HND.out.2 HSN.out.2).mono ?_
      rintro e w6 ⟨rfl,hb⟩
      replace hbz:=hbz.trans (hb.mono hbz.size)
      have hsc:=(HBX.out _ hbz).2.1.seven
      clear hb
      generalize comT nd = cn at *
      go_wp2_with fail
      refine hK.out _ _ (hsc) (fun hHeld => ?_)
      clear hK K
      (try simp only [Act.put,List.setIfInBounds_toArray,List.set_cons_zero,List.set_cons_succ])
      refine wpAnyH_ready (rs:=[15]) (by kernel_rfl) (by simp) ?_
      refine AllReadyH.cons rfl (fun K hK => ?_) AllReadyH.nil
      go_simp
      go_at_call 68
      refine (rcommas_any tB tc lo tk _ (HBX.out _ hbz).1.2 HSX.out.1 HTK.out.2 HSX.out.2).mono ?_
      rintro e w7 ⟨rfl,hb⟩
      replace hbz:=hbz.trans (hb.mono hbz.size)
      have hsc:=(HBX.out _ hbz).2.1.seven
      clear hb
      generalize comT tk = ck at *
      go_wp2_with fail
      refine hK.out _ _ (hsc) (fun hHeld => ?_)
      clear hK K
      (try simp only [Act.put,List.setIfInBounds_toArray,List.set_cons_zero,List.set_cons_succ])
      refine wpAnyH_ready (rs:=[17]) (by kernel_rfl) (by simp) ?_
      refine AllReadyH.cons rfl (fun K hK => ?_) AllReadyH.nil
      go_simp
      have hL : Blk (w7.alloc (.cells #[.string ⟨#[100,111,111,114]⟩,.string ⟨key.toArray⟩,.string ⟨src.toArray⟩,.string ⟨dst.toArray⟩,.string ⟨ti.toArray⟩,.string ⟨cn.toArray⟩,.string ⟨ck.toArray⟩,.string ⟨#[45]⟩] 9)) w7.heap.size 9 #[.string ⟨#[100,111,111,114]⟩,.string ⟨key.toArray⟩,.string ⟨src.toArray⟩,.string ⟨dst.toArray⟩,.string ⟨ti.toArray⟩,.string ⟨cn.toArray⟩,.string ⟨ck.toArray⟩,.string ⟨#[45]⟩]:=Blk.new _ _ _
      replace hbz:=hbz.alloc hbz.size (.cells #[.string ⟨#[100,111,111,114]⟩,.string ⟨key.toArray⟩,.string ⟨src.toArray⟩,.string ⟨dst.toArray⟩,.string ⟨ti.toArray⟩,.string ⟨cn.toArray⟩,.string ⟨ck.toArray⟩,.string ⟨#[45]⟩] 9)
      have hsc:=(HBX.out _ hbz).2.1.seven
      refine hK.out _ _ (hsc) (fun hHeld => ?_)
      clear hK K
      (try simp only [Act.put,List.setIfInBounds_toArray,List.set_cons_zero,List.set_cons_succ])
      refine wpAnyH_ready (rs:=[18]) (by kernel_rfl) (by simp) ?_
      refine AllReadyH.cons rfl (fun K hK => ?_) AllReadyH.nil
      go_simp
      go_at_call 63
      have hln:=joinS_any (A:=some ⟨w7.heap.size,0,none⟩) 8 32 (l:=[doorW,key,src,dst,ti,cn,ck,[45]]) (Row.lit hL (Nat.zero_le _) rfl) (by simp) (by simp) (by simp) (by omega)
      simp only [List.length_cons,List.length_nil,Nat.zero_add,Nat.reduceAdd] at hln
      refine hln.mono ?_
      clear hln
      rintro e w8 ⟨rfl,hb⟩
      replace hbz:=hbz.trans (hb.mono hbz.size)
      have hsc:=(HBX.out _ hbz).2.1.seven
      clear hb
      generalize Lib.join [doorW,key,src,dst,ti,cn,ck,[45]] [32] = x at *
      simp only [List.length_cons,List.length_nil] at hll
      have c1 : ¬ (9223372036854775807 < x.length + 1):=by omega
      have c2 : ¬ (9223372036854775807 < pre.length + (x.length + 1)):=by omega
      go_wp2_with fail
      refine hK.out _ _ (hsc) (fun hHeld => ?_)
      clear hK K
      (try simp only [Act.put,List.setIfInBounds_toArray,List.set_cons_zero,List.set_cons_succ])
      (refine wpAnyH_take (i:=19) (v:=?_) (by (simp only [List.getElem?_toArray,List.getElem?_cons_succ,List.getElem?_cons_zero]; rfl)) (by kernel_rfl) (by kernel_rfl) (by kernel_rfl) (by exact fun _ _ _ h => h) (Or.inl ⟨by rfl,?_⟩) (by assumption) ?_; (rotate_left 1; (intro w hSw; (try dsimp only at hSw); go_simp); (try with_reducible rfl)); (try simp only [Act.put,List.setIfInBounds_toArray,List.set_cons_zero,List.set_cons_succ]))
      (refine wpAnyH_take (i:=20) (v:=?_) (by (simp only [List.getElem?_toArray,List.getElem?_cons_succ,List.getElem?_cons_zero]; rfl)) (by kernel_rfl) (by kernel_rfl) (by kernel_rfl) (by exact fun _ _ _ h => h) (Or.inl ⟨by rfl,?_⟩) (by assumption) ?_; (rotate_left 1; (intro w hSw; (try dsimp only at hSw); go_simp); (try with_reducible rfl)); (try simp only [Act.put,List.setIfInBounds_toArray,List.set_cons_zero,List.set_cons_succ]))
      (refine wpAnyH_take (i:=21) (v:=?_) (by (simp only [List.getElem?_toArray,List.getElem?_cons_succ,List.getElem?_cons_zero]; rfl)) (by kernel_rfl) (by kernel_rfl) (by kernel_rfl) (by exact fun _ _ _ h => h) (Or.inl ⟨by rfl,?_⟩) (by assumption) ?_; (rotate_left 1; (intro w hSw; (try dsimp only at hSw); go_simp); (try with_reducible rfl)); (try simp only [Act.put,List.setIfInBounds_toArray,List.set_cons_zero,List.set_cons_succ]))
      refine wpAnyH_done (by kernel_rfl) ?_ _
      go_wp2_with fail
      rw [dr_bytes,← HN.out]
      go_roundw
      case rel => exact ⟨k + 1,by omega,by go_num,rfl,(HBX.out _ hbz).2.2⟩
      case measure => simp [intOf]; omega
     ·have hte : trT trk = trk:=by unfold trT; rw [if_neg htr]
      rw [hte] at hll
      have HN : Hid (drsT h0 ds (k + 1) = pre ++ (Lib.join [doorW,key,src,dst,Lib.itoa tm,comT nd,comT tk,trk] [32] ++ [10])):=Lib.hid (by rw [HN.out,hte])
      clear hte
      have d0 : trk.isEmpty = false:=by cases trk with
       | nil => exact absurd rfl htr
       | cons x l => rfl
      clear htr
      go_upto_region 13 with (fail)
      clear k6
      have hbz : Below X.heap.size X X.drew:=below_drewN' (Below.refl _ _) 1
      have hsc:=(HBX.out _ hbz).2.1.seven
      refine wp_region_held_drew (S:=(fun w' => w'.cell? ⟨bt,0,none⟩ = some (.string ⟨key.toArray⟩) ∧ w'.cell? ⟨bt,1,none⟩ = some (.string ⟨src.toArray⟩) ∧ w'.cell? ⟨bt,2,none⟩ = some (.string ⟨dst.toArray⟩) ∧ w'.cell? ⟨bt,3,none⟩ = some (.int .i64 tm) ∧ w'.cell? ⟨bt,4,none⟩ = some (.slice nB nd.length nc) ∧ w'.cell? ⟨bt,5,none⟩ = some (.slice tB tk.length tc) ∧ w'.cell? ⟨bt,6,none⟩ = some (.string ⟨trk.toArray⟩))) (by kernel_rfl) (hsc) (fun hHeld => ?_)
      (refine wpAnyH_take (i:=0) (v:=?_) (by (simp only [List.getElem?_toArray,List.getElem?_cons_zero]; rfl)) (by kernel_rfl) (by kernel_rfl) (by kernel_rfl) (by exact fun _ _ _ h => h) (Or.inl ⟨by rfl,?_⟩) (by assumption) ?_; (rotate_left 1; (intro w hSw; (try dsimp only at hSw); go_simp); (try with_reducible rfl)); (try simp only [Act.put,List.setIfInBounds_toArray,List.set_cons_zero,List.set_cons_succ]))
      (refine wpAnyH_take (i:=1) (v:=?_) (by (simp only [List.getElem?_toArray,List.getElem?_cons_succ,List.getElem?_cons_zero]; rfl)) (by kernel_rfl) (by kernel_rfl) (by kernel_rfl) (by exact fun _ _ _ h => h) (Or.inl ⟨by rfl,?_⟩) (by assumption) ?_; (rotate_left 1; (intro w hSw; (try dsimp only at hSw); go_simp); (try with_reducible rfl)); (try simp only [Act.put,List.setIfInBounds_toArray,List.set_cons_zero,List.set_cons_succ]))
      (refine wpAnyH_take (i:=2) (v:=?_) (by (simp only [List.getElem?_toArray,List.getElem?_cons_succ,List.getElem?_cons_zero]; rfl)) (by kernel_rfl) (by kernel_rfl) (by kernel_rfl) (by exact fun _ _ _ h => h) (Or.inl ⟨by rfl,?_⟩) (by assumption) ?_; (rotate_left 1; (intro w hSw; (try dsimp only at hSw); go_simp); (try with_reducible rfl)); (try simp only [Act.put,List.setIfInBounds_toArray,List.set_cons_zero,List.set_cons_succ]))
      (refine wpAnyH_take (i:=3) (v:=?_) (by (simp only [List.getElem?_toArray,List.getElem?_cons_succ,List.getElem?_cons_zero]; rfl)) (by kernel_rfl) (by kernel_rfl) (by kernel_rfl) (by exact fun _ _ _ h => h) (Or.inl ⟨by rfl,?_⟩) (by assumption) ?_; (rotate_left 1; (intro w hSw; (try dsimp only at hSw); go_simp); (try with_reducible rfl)); (try simp only [Act.put,List.setIfInBounds_toArray,List.set_cons_zero,List.set_cons_succ]))
      (refine wpAnyH_take (i:=4) (v:=?_) (by (simp only [List.getElem?_toArray,List.getElem?_cons_succ,List.getElem?_cons_zero]; rfl)) (by kernel_rfl) (by kernel_rfl) (by kernel_rfl) (by exact fun _ _ _ h => h) (Or.inl ⟨by rfl,?_⟩) (by assumption) ?_; (rotate_left 1; (intro w hSw; (try dsimp only at hSw); go_simp); (try with_reducible rfl)); (try simp only [Act.put,List.setIfInBounds_toArray,List.set_cons_zero,List.set_cons_succ]))
      (refine wpAnyH_take (i:=5) (v:=?_) (by (simp only [List.getElem?_toArray,List.getElem?_cons_succ,List.getElem?_cons_zero]; rfl)) (by kernel_rfl) (by kernel_rfl) (by kernel_rfl) (by exact fun _ _ _ h => h) (Or.inl ⟨by rfl,?_⟩) (by assumption) ?_; (rotate_left 1; (intro w hSw; (try dsimp only at hSw); go_simp); (try with_reducible rfl)); (try simp only [Act.put,List.setIfInBounds_toArray,List.set_cons_zero,List.set_cons_succ]))
      (refine wpAnyH_take (i:=6) (v:=?_) (by (simp only [List.getElem?_toArray,List.getElem?_cons_succ,List.getElem?_cons_zero]; rfl)) (by kernel_rfl) (by kernel_rfl) (by kernel_rfl) (by exact fun _ _ _ h => h) (Or.inl ⟨by rfl,?_⟩) (by assumption) ?_; (rotate_left 1; (intro w hSw; (try dsimp only at hSw); go_simp); (try with_reducible rfl)); (try simp only [Act.put,List.setIfInBounds_toArray,List.set_cons_zero,List.set_cons_succ]))
      (refine wpAnyH_take (i:=7) (v:=?_) (by (simp only [List.getElem?_toArray,List.getElem?_cons_succ,List.getElem?_cons_zero]; rfl)) (by kernel_rfl) (by kernel_rfl) (by kernel_rfl) (by exact fun _ _ _ h => h) (Or.inl ⟨by rfl,?_⟩) (by assumption) ?_; (rotate_left 1; (intro w hSw; (try dsimp only at hSw); go_simp); (try with_reducible rfl)); (try simp only [Act.put,List.setIfInBounds_toArray,List.set_cons_zero,List.set_cons_succ]))
      (refine wpAnyH_take (i:=8) (v:=?_) (by (simp only [List.getElem?_toArray,List.getElem?_cons_succ,List.getElem?_cons_zero]; rfl)) (by kernel_rfl) (by kernel_rfl) (by kernel_rfl) (by exact fun _ _ _ h => h) (Or.inl ⟨by rfl,?_⟩) (by assumption) ?_; (rotate_left 1; (intro w hSw; (try dsimp only at hSw); go_simp); (try with_reducible rfl)); (try simp only [Act.put,List.setIfInBounds_toArray,List.set_cons_zero,List.set_cons_succ]))
      (refine wpAnyH_take (i:=10) (v:=?_) (by (simp only [List.getElem?_toArray,List.getElem?_cons_succ,List.getElem?_cons_zero]; rfl)) (by kernel_rfl) (by kernel_rfl) (by kernel_rfl) (by exact fun _ _ _ h => h) (Or.inl ⟨by rfl,?_⟩) (by assumption) ?_; (rotate_left 1; (intro w hSw; (try dsimp only at hSw); go_simp); (try with_reducible rfl)); (try simp only [Act.put,List.setIfInBounds_toArray,List.set_cons_zero,List.set_cons_succ]))
      (refine wpAnyH_take (i:=11) (v:=?_) (by (simp only [List.getElem?_toArray,List.getElem?_cons_succ,List.getElem?_cons_zero]; rfl)) (by kernel_rfl) (by kernel_rfl) (by kernel_rfl) (by exact fun _ _ _ h => h) (Or.inl ⟨by rfl,?_⟩) (by assumption) ?_; (rotate_left 1; (intro w hSw; (try dsimp only at hSw); go_simp); (try with_reducible rfl)); (try simp only [Act.put,List.setIfInBounds_toArray,List.set_cons_zero,List.set_cons_succ]))
      (refine wpAnyH_take (i:=13) (v:=?_) (by (simp only [List.getElem?_toArray,List.getElem?_cons_succ,List.getElem?_cons_zero]; rfl)) (by kernel_rfl) (by kernel_rfl) (by kernel_rfl) (by exact fun _ _ _ h => h) (Or.inl ⟨by rfl,?_⟩) (by assumption) ?_; (rotate_left 1; (intro w hSw; (try dsimp only at hSw); go_simp); (try with_reducible rfl)); (try simp only [Act.put,List.setIfInBounds_toArray,List.set_cons_zero,List.set_cons_succ]))
      (refine wpAnyH_take (i:=14) (v:=?_) (by (simp only [List.getElem?_toArray,List.getElem?_cons_succ,List.getElem?_cons_zero]; rfl)) (by kernel_rfl) (by kernel_rfl) (by kernel_rfl) (by exact fun _ _ _ h => h) (Or.inl ⟨by rfl,?_⟩) (by assumption) ?_; (rotate_left 1; (intro w hSw; (try dsimp only at hSw); go_simp); (try with_reducible rfl)); (try simp only [Act.put,List.setIfInBounds_toArray,List.set_cons_zero,List.set_cons_succ]))
      (refine wpAnyH_take (i:=16) (v:=?_) (by (simp only [List.getElem?_toArray,List.getElem?_cons_succ,List.getElem?_cons_zero]; rfl)) (by kernel_rfl) (by kernel_rfl) (by kernel_rfl) (by exact fun _ _ _ h => h) (Or.inl ⟨by rfl,?_⟩) (by assumption) ?_; (rotate_left 1; (intro w hSw; (try dsimp only at hSw); go_simp); (try with_reducible rfl)); (try simp only [Act.put,List.setIfInBounds_toArray,List.set_cons_zero,List.set_cons_succ]))
      refine wpAnyH_ready (rs:=[9]) (by kernel_rfl) (by simp) ?_
      refine AllReadyH.cons rfl (fun K hK => ?_) AllReadyH.nil
      go_simp
      go_at_call 65
      refine (itoaE_any tm HIT.out.1 HIT.out.2 _ (HEN.out _ (HBX.out _ hbz).2.2).1).mono ?_
      rintro e w5 ⟨rfl,hb⟩
      replace hbz:=hbz.trans (hb.mono hbz.size)
      have hsc:=(HBX.out _ hbz).2.1.seven
      clear hb
      generalize Lib.itoa tm = ti at *
      go_wp2_with fail
      refine hK.out _ _ (hsc) (fun hHeld => ?_)
      clear hK K
      (try simp only [Act.put,List.setIfInBounds_toArray,List.set_cons_zero,List.set_cons_succ])
      refine wpAnyH_ready (rs:=[12]) (by kernel_rfl) (by simp) ?_
      refine AllReadyH.cons rfl (fun K hK => ?_) AllReadyH.nil
      go_simp
      go_at_call 68
      refine (rcommas_any nB nc lo nd _ (HBX.out _ hbz).1.1 HSN.out.1 HND.out.2 HSN.out.2).mono ?_
      rintro e w6 ⟨rfl,hb⟩
      replace hbz:=hbz.trans (hb.mono hbz.size)
      have hsc:=(HBX.out _ hbz).2.1.seven
      clear hb
      generalize comT nd = cn at *
      go_wp2_with fail
      refine hK.out _ _ (hsc) (fun hHeld => ?_)
      clear hK K
      (try simp only [Act.put,List.setIfInBounds_toArray,List.set_cons_zero,List.set_cons_succ])
      refine wpAnyH_ready (rs:=[15]) (by kernel_rfl) (by simp) ?_
      refine AllReadyH.cons rfl (fun K hK => ?_) AllReadyH.nil
      go_simp
      go_at_call 68
      refine (rcommas_any tB tc lo tk _ (HBX.out _ hbz).1.2 HSX.out.1 HTK.out.2 HSX.out.2).mono ?_
      rintro e w7 ⟨rfl,hb⟩
      replace hbz:=hbz.trans (hb.mono hbz.size)
      have hsc:=(HBX.out _ hbz).2.1.seven
      clear hb
      generalize comT tk = ck at *
      go_wp2_with fail
      refine hK.out _ _ (hsc) (fun hHeld => ?_)
      clear hK K
      (try simp only [Act.put,List.setIfInBounds_toArray,List.set_cons_zero,List.set_cons_succ])
      refine wpAnyH_ready (rs:=[17]) (by kernel_rfl) (by simp) ?_
      refine AllReadyH.cons rfl (fun K hK => ?_) AllReadyH.nil
      go_simp
      have hL : Blk (w7.alloc (.cells #[.string ⟨#[100,111,111,114]⟩,.string ⟨key.toArray⟩,.string ⟨src.toArray⟩,.string ⟨dst.toArray⟩,.string ⟨ti.toArray⟩,.string ⟨cn.toArray⟩,.string ⟨ck.toArray⟩,.string ⟨trk.toArray⟩] 9)) w7.heap.size 9 #[.string ⟨#[100,111,111,114]⟩,.string ⟨key.toArray⟩,.string ⟨src.toArray⟩,.string ⟨dst.toArray⟩,.string ⟨ti.toArray⟩,.string ⟨cn.toArray⟩,.string ⟨ck.toArray⟩,.string ⟨trk.toArray⟩]:=Blk.new _ _ _
      replace hbz:=hbz.alloc hbz.size (.cells #[.string ⟨#[100,111,111,114]⟩,.string ⟨key.toArray⟩,.string ⟨src.toArray⟩,.string ⟨dst.toArray⟩,.string ⟨ti.toArray⟩,.string ⟨cn.toArray⟩,.string ⟨ck.toArray⟩,.string ⟨trk.toArray⟩] 9)
      have hsc:=(HBX.out _ hbz).2.1.seven
      refine hK.out _ _ (hsc) (fun hHeld => ?_)
      clear hK K
      (try simp only [Act.put,List.setIfInBounds_toArray,List.set_cons_zero,List.set_cons_succ])
      refine wpAnyH_ready (rs:=[18]) (by kernel_rfl) (by simp) ?_
      refine AllReadyH.cons rfl (fun K hK => ?_) AllReadyH.nil
      go_simp
      go_at_call 63
      have hln:=joinS_any (A:=some ⟨w7.heap.size,0,none⟩) 8 32 (l:=[doorW,key,src,dst,ti,cn,ck,trk]) (Row.lit hL (Nat.zero_le _) rfl) (by simp) (by simp) (by simp) (by omega)
      simp only [List.length_cons,List.length_nil,Nat.zero_add,Nat.reduceAdd] at hln
      refine hln.mono ?_
      clear hln
      rintro e w8 ⟨rfl,hb⟩
      replace hbz:=hbz.trans (hb.mono hbz.size)
      have hsc:=(HBX.out _ hbz).2.1.seven
      clear hb
      generalize Lib.join [doorW,key,src,dst,ti,cn,ck,trk] [32] = x at *
      simp only [List.length_cons,List.length_nil] at hll
      have c1 : ¬ (9223372036854775807 < x.length + 1):=by omega
      have c2 : ¬ (9223372036854775807 < pre.length + (x.length + 1)):=by omega
      go_wp2_with fail
      refine hK.out _ _ (hsc) (fun hHeld => ?_)
      clear hK K
      (try simp only [Act.put,List.setIfInBounds_toArray,List.set_cons_zero,List.set_cons_succ])
      (refine wpAnyH_take (i:=19) (v:=?_) (by (simp only [List.getElem?_toArray,List.getElem?_cons_succ,List.getElem?_cons_zero]; rfl)) (by kernel_rfl) (by kernel_rfl) (by kernel_rfl) (by exact fun _ _ _ h => h) (Or.inl ⟨by rfl,?_⟩) (by assumption) ?_; (rotate_left 1; (intro w hSw; (try dsimp only at hSw); go_simp); (try with_reducible rfl)); (try simp only [Act.put,List.setIfInBounds_toArray,List.set_cons_zero,List.set_cons_succ]))
      (refine wpAnyH_take (i:=20) (v:=?_) (by (simp only [List.getElem?_toArray,List.getElem?_cons_succ,List.getElem?_cons_zero]; rfl)) (by kernel_rfl) (by kernel_rfl) (by kernel_rfl) (by exact fun _ _ _ h => h) (Or.inl ⟨by rfl,?_⟩) (by assumption) ?_; (rotate_left 1; (intro w hSw; (try dsimp only at hSw); go_simp); (try with_reducible rfl)); (try simp only [Act.put,List.setIfInBounds_toArray,List.set_cons_zero,List.set_cons_succ]))
      (refine wpAnyH_take (i:=21) (v:=?_) (by (simp only [List.getElem?_toArray,List.getElem?_cons_succ,List.getElem?_cons_zero]; rfl)) (by kernel_rfl) (by kernel_rfl) (by kernel_rfl) (by exact fun _ _ _ h => h) (Or.inl ⟨by rfl,?_⟩) (by assumption) ?_; (rotate_left 1; (intro w hSw; (try dsimp only at hSw); go_simp); (try with_reducible rfl)); (try simp only [Act.put,List.setIfInBounds_toArray,List.set_cons_zero,List.set_cons_succ]))
      refine wpAnyH_done (by kernel_rfl) ?_ _
      go_wp2_with fail
      rw [dr_bytes,← HN.out]
      go_roundw
      case rel => exact ⟨k + 1,by omega,by go_num,rfl,(HBX.out _ hbz).2.2⟩
      case measure => simp [intOf]; omega
    ·have hke : k = ds.length:=by omega
     subst hke
     rw [← HM2.out]
     have hxw:=(HEN.out _ hy).2.2.2
     go_wp2_with fail
     go_ret
     exact ⟨rfl,hxw⟩
end Go.Proofs.YtijdbbnnkogkjaaGreatDoor
