/- Texts of this seat, laid together: Nc. -/
import Derived.Test.YtijdbbnnkogkjaaGreatDoorBn39
import Derived.Test.YtijdbbnnkogkjaaGreatDoorBn41
import Derived.Test.YtijdbbnnkogkjaaGreatDoorBn28
/- A line of a map is read: route.readLine, route.Read's closure. -/
namespace Go.Proofs.YtijdbbnnkogkjaaGreatDoor
set_option linter.unusedVariables false
set_option linter.unusedSimpArgs false
open Go.RowKit Go.Sort

theorem okM_full {t : List UInt8} {k : Nat} (h : fullW (lwM t k) = false) : okM t k = false:=by unfold okM; rw [h]; rfl
theorem okM_first {t : List UInt8} {k : Nat} {w0 : List UInt8} (h0 : (lwM t k).getD 0 [] = w0) (h : decide (w0 = mapW) ≠ decide (k = 0)) : okM t k = false:=by
 unfold okM; rw [h0]
 have e : (decide (w0 = mapW) == decide (k = 0)) = false:=beq_eq_false_iff_ne.2 h
 rw [e]; simp
theorem mapW_roomW : mapW ≠ roomW:=by decide
theorem mapW_doorW : mapW ≠ doorW:=by decide
theorem roomW_doorW : roomW ≠ doorW:=by decide
theorem okM_m {t : List UInt8} {k : Nat} (hf : fullW (lwM t k) = true) (h0 : (lwM t k).getD 0 [] = mapW) (hk : k = 0) : okM t k = decide ((lwM t k).length = 3):=by
 unfold okM mapB roomB doorB
 rw [hf,h0,decide_eq_true hk,decide_eq_true (show mapW = mapW from rfl),decide_eq_false (show ¬ (mapW = roomW) by decide),decide_eq_false (show ¬ (mapW = doorW) by decide)]
 simp
theorem okM_r {t : List UInt8} {k : Nat} (hf : fullW (lwM t k) = true) (h0 : (lwM t k).getD 0 [] = roomW) (hk : k ≠ 0) : okM t k = (decide ((lwM t k).length = 3) && decide ((mpR t k).ds.length = 0) && uncB ((lwM t k).getD 2 [])):=by
 unfold okM mapB roomB doorB
 rw [hf,h0,decide_eq_false hk,decide_eq_false (show ¬ (roomW = mapW) by decide),decide_eq_true (show roomW = roomW from rfl),decide_eq_false (show ¬ (roomW = doorW) by decide)]
 simp
theorem okM_d {t : List UInt8} {k : Nat} (hf : fullW (lwM t k) = true) (h0 : (lwM t k).getD 0 [] = doorW) (hk : k ≠ 0) : okM t k = (decide ((lwM t k).length = 8) && (numB ((lwM t k).getD 4 []) 9 && uncB ((lwM t k).getD 5 []) && uncB ((lwM t k).getD 6 []))):=by
 unfold okM mapB roomB doorB
 rw [hf,h0,decide_eq_false hk,decide_eq_false (show ¬ (doorW = mapW) by decide),decide_eq_false (show ¬ (doorW = roomW) by decide),decide_eq_true (show doorW = doorW from rfl)]
 simp
theorem okM_n {t : List UInt8} {k : Nat} {w0 : List UInt8} (h0 : (lwM t k).getD 0 [] = w0) (h1 : w0 ≠ mapW) (h2 : w0 ≠ roomW) (h3 : w0 ≠ doorW) : okM t k = false:=by
 unfold okM mapB roomB doorB
 rw [h0,decide_eq_false h1,decide_eq_false h2,decide_eq_false h3]
 simp
theorem mpR_m {t : List UInt8} {k : Nat} (h0 : (lwM t k).getD 0 [] = mapW) : mpR t (k + 1) = ⟨(lwM t k).getD 1 [],(lwM t k).getD 2 [],(mpR t k).rs,(mpR t k).ds⟩:=by
 show stepM _ _ = _; unfold stepM; rw [if_pos h0]
theorem mpR_r {t : List UInt8} {k : Nat} (h0 : (lwM t k).getD 0 [] = roomW) : mpR t (k + 1) = ⟨(mpR t k).st,(mpR t k).gl,(mpR t k).rs ++ [rmOf (lwM t k)],(mpR t k).ds⟩:=by
 show stepM _ _ = _; unfold stepM; rw [if_neg (by rw [h0]; exact fun e => mapW_roomW e.symm),if_pos h0]
theorem mpR_d {t : List UInt8} {k : Nat} (h0 : (lwM t k).getD 0 [] = doorW) : mpR t (k + 1) = ⟨(mpR t k).st,(mpR t k).gl,(mpR t k).rs,(mpR t k).ds ++ [drOf (lwM t k)]⟩:=by
 show stepM _ _ = _; unfold stepM; rw [if_neg (by rw [h0]; exact fun e => mapW_doorW e.symm),if_neg (by rw [h0]; exact fun e => roomW_doorW e.symm)]
theorem mpR_len (t : List UInt8) : ∀ k,(mpR t k).rs.length + (mpR t k).ds.length ≤ k
 | 0 => by simp [mpR,MpS.no]
 | k + 1 => by
  have:=mpR_len t k
  show (stepM _ _).rs.length + (stepM _ _).ds.length ≤ _
  unfold stepM
  split
  ·show (mpR t k).rs.length + (mpR t k).ds.length ≤ _; omega
  ·split
   ·show ((mpR t k).rs ++ [_]).length + (mpR t k).ds.length ≤ _; rw [List.length_append,List.length_singleton]; omega
   ·show (mpR t k).rs.length + ((mpR t k).ds ++ [_]).length ≤ _; rw [List.length_append,List.length_singleton]; omega
def MpA (t : List UInt8) (b2 L k : Nat) (W : World) : Prop:=∃ (A : Option Addr) (ca : Nat) (rs : List RoomE) (D : Option Addr) (cd : Nat) (ds : List DoorE),Blk W b2 29 #[.slice A rs.length ca,.slice D ds.length cd,.string ⟨(mpR t k).st.toArray⟩,.string ⟨(mpR t k).gl.toArray⟩] ∧ MapO W L A ca rs D cd ds ∧ rs.map RoomE.er = (mpR t k).rs ∧ ds.map DoorE.er = (mpR t k).ds
section
variable {t : List UInt8} {b2 L k : Nat} {W W' : World} {A D : Option Addr} {ca cd : Nat} {rs : List RoomE} {ds : List DoorE} {st gl : List UInt8}
theorem MpA.below (h : MpA t b2 L k W) (hb : Below W.heap.size W W') : MpA t b2 L k W':=by
 obtain ⟨A,ca,rs,D,cd,ds,h1,h2,h3,h4⟩:=h
 exact ⟨A,ca,rs,D,cd,ds,h1.below hb,h2.below hb,h3,h4⟩
theorem MpA.start (h : Blk W b2 29 #[.slice none 0 0,.slice none 0 0,.string ⟨#[]⟩,.string ⟨#[]⟩]) : MpA t b2 L 0 W :=
 ⟨none,0,[],none,0,[],h,⟨World.ownsRow_nil _ _ _ _,World.ownsRow_nil _ _ _ _,fun q hq => by simp [rlists] at hq,fun q hq => by simp [dlists] at hq⟩,rfl,rfl⟩
theorem MpA.pushM (hb : b2 < L) {x y : List UInt8} (h0 : (lwM t k).getD 0 [] = mapW) (hx : (lwM t k).getD 1 [] = x) (hy : (lwM t k).getD 2 [] = y) (h1 : Blk W b2 29 #[.slice A rs.length ca,.slice D ds.length cd,.string ⟨st.toArray⟩,.string ⟨gl.toArray⟩]) (h2 : MapO W L A ca rs D cd ds) (e1 : rs.map RoomE.er = (mpR t k).rs) (e2 : ds.map DoorE.er = (mpR t k).ds) :
  MpA t b2 L (k + 1) ((W.setCell ⟨b2,2,none⟩ (.string ⟨x.toArray⟩)).setCell ⟨b2,3,none⟩ (.string ⟨y.toArray⟩)):=by
 refine ⟨A,ca,rs,D,cd,ds,?_,(h2.setOff (p:=⟨b2,2,none⟩) hb _).setOff (p:=⟨b2,3,none⟩) hb _,?_,?_⟩
 ·rw [mpR_m h0,hx,hy]
  simpa using (h1.poke 2 (.string ⟨x.toArray⟩)).poke 3 (.string ⟨y.toArray⟩)
 ·rw [mpR_m h0]; exact e1
 ·rw [mpR_m h0]; exact e2
theorem MpA.pushR (hb : b2 < L) {key : List UInt8} {l : List (List UInt8)} {A7 A8 : Option Addr} {c7 c8 : Nat} (h0 : (lwM t k).getD 0 [] = roomW) (hx : (lwM t k).getD 1 [] = key) (hl : l = uncL ((lwM t k).getD 2 []))
  (hst : st = (mpR t k).st) (hgl : gl = (mpR t k).gl) (h1 : Blk W b2 29 #[.slice A rs.length ca,.slice D ds.length cd,.string ⟨st.toArray⟩,.string ⟨gl.toArray⟩]) (h2 : MapO W L A ca rs D cd ds) (e1 : rs.map RoomE.er = (mpR t k).rs) (e2 : ds.map DoorE.er = (mpR t k).ds)
  (hlo : LstO W L (A7,l,c7)) (hg : W.grownBy W' (Value.slice A rs.length ca).ownBlock) (hw : W'.ownsRow L 62 2 (.slice A8 (rs.length + 1) c8) (rs.length + 1) (rs.flatMap encR ++ [.string ⟨key.toArray⟩,.slice A7 l.length c7])) :
  MpA t b2 L (k + 1) (W'.setCell ⟨b2,0,none⟩ (.slice A8 (rs.length + 1) c8)):=by
 have hw' : W'.ownsRow L 62 2 (.slice A8 (rs ++ [(⟨key,l,A7,c7⟩ : RoomE)]).length c8) (rs ++ [(⟨key,l,A7,c7⟩ : RoomE)]).length ((rs ++ [(⟨key,l,A7,c7⟩ : RoomE)]).flatMap encR):=by simpa [encR,encStr] using hw
 have h3:=h2.appR hg hw' hlo
 have h4:=h1.otherOf hg (own_kindOf h2.rooms) (by decide)
 refine ⟨A8,c8,rs ++ [(⟨key,l,A7,c7⟩ : RoomE)],D,cd,ds,?_,h3.setOff (p:=⟨b2,0,none⟩) hb _,?_,?_⟩
 ·rw [mpR_r h0]
  subst hst hgl
  simpa using h4.poke 0 (.slice A8 (rs.length + 1) c8)
 ·rw [mpR_r h0,List.map_append,e1]
  show _ ++ [_] = _ ++ [_]
  unfold rmOf RoomE.er
  rw [hx,← hl]
 ·rw [mpR_r h0]; exact e2
theorem MpA.pushD (hb : b2 < L) {key src dst w7 trk : List UInt8} {n : Int} {l m : List (List UInt8)} {A7 A8 B8 : Option Addr} {c7 c8 d8 : Nat} (h0 : (lwM t k).getD 0 [] = doorW) (hx : (lwM t k).getD 1 [] = key) (hs : (lwM t k).getD 2 [] = src) (hd : (lwM t k).getD 3 [] = dst) (hn : n = numV ((lwM t k).getD 4 []) 9) (hl : l = uncL ((lwM t k).getD 5 [])) (hm : m = uncL ((lwM t k).getD 6 [])) (h7 : (lwM t k).getD 7 [] = w7) (ht : trk = if w7 = [45] then [] else w7)
  (hst : st = (mpR t k).st) (hgl : gl = (mpR t k).gl) (h1 : Blk W b2 29 #[.slice A rs.length ca,.slice D ds.length cd,.string ⟨st.toArray⟩,.string ⟨gl.toArray⟩]) (h2 : MapO W L A ca rs D cd ds) (e1 : rs.map RoomE.er = (mpR t k).rs) (e2 : ds.map DoorE.er = (mpR t k).ds)
  (hlo : LstO W L (A7,l,c7)) (hlp : LstO W L (A8,m,c8)) (hg : W.grownBy W' (Value.slice D ds.length cd).ownBlock) (hw : W'.ownsRow L 66 7 (.slice B8 (ds.length + 1) d8) (ds.length + 1) (ds.flatMap encD ++ [.string ⟨key.toArray⟩,.string ⟨src.toArray⟩,.string ⟨dst.toArray⟩,.int .i64 n,.slice A7 l.length c7,.slice A8 m.length c8,.string ⟨trk.toArray⟩])) :
  MpA t b2 L (k + 1) (W'.setCell ⟨b2,1,none⟩ (.slice B8 (ds.length + 1) d8)):=by
 have hw' : W'.ownsRow L 66 7 (.slice B8 (ds ++ [(⟨key,src,dst,n,l,m,trk,A7,c7,A8,c8⟩ : DoorE)]).length d8) (ds ++ [(⟨key,src,dst,n,l,m,trk,A7,c7,A8,c8⟩ : DoorE)]).length ((ds ++ [(⟨key,src,dst,n,l,m,trk,A7,c7,A8,c8⟩ : DoorE)]).flatMap encD):=by simpa [encD,encStr] using hw
 have h3:=h2.appD hg hw' hlo hlp
 have h4:=h1.otherOf hg (own_kindOf h2.doors) (by decide)
 refine ⟨A,ca,rs,B8,d8,ds ++ [(⟨key,src,dst,n,l,m,trk,A7,c7,A8,c8⟩ : DoorE)],?_,h3.setOff (p:=⟨b2,1,none⟩) hb _,?_,?_⟩
 ·rw [mpR_d h0]
  subst hst hgl
  simpa using h4.poke 1 (.slice B8 (ds.length + 1) d8)
 ·rw [mpR_d h0]; exact e1
 ·rw [mpR_d h0,List.map_append,e2]
  show _ ++ [_] = _ ++ [_]
  unfold drOf DoorE.er
  rw [hx,hs,hd,h7,← hn,← hl,← hm,ht]
end
def MpLn (t : List UInt8) (b2 L k : Nat) (W : World) (e : Ending) (W' : World) : Prop :=
 e = .returned (.bool (okM t k)) ∧ Stays L [b2] W W' ∧ (okM t k = true → MpA t b2 L (k + 1) W')
theorem strs_cell {w : World} {b : Nat} {ss : List (List UInt8)} (h : Blk w b 9 (strs ss).toArray) {j : Nat} (hj : j < ss.length) : w.cell? ⟨b,j,none⟩ = some (.string ⟨(ss.getD j []).toArray⟩):=by
 have:=h.cell j
 rw [this]
 simp [strs,encStr,List.getD_eq_getElem?_getD,List.getElem?_eq_getElem hj]
set_option maxHeartbeats 8000000 in
set_option maxRecDepth 100000 in
theorem readLine_any (t : List UInt8) (b2 B L k : Nat) (fst : Bool) (W : World) (ht : t.length ≤ 1000000) (hk : k < (linesL t).length) (hL : L ≤ W.heap.size) (hE : EnvB B W) (hBL : B ≤ L) (hB2 : B ≤ b2) (hb2 : b2 < L) (hfst : fst = decide (k = 0)) (h : MpA t b2 L k W) :
  Calls Tryz.prog 73 #[.pointer (some ⟨b2,0,none⟩),encStr (linesL t)[k],.bool fst] W (MpLn t b2 L k W):=by
 obtain ⟨A,ca,rs,D,cd,ds,hbx,hmo,he1,he2⟩:=h
 have hkn : k ≤ 1000001:=by have:=(linesL_le t).1; omega
 have hsl : (linesL t)[k].length ≤ 1000000:=by have:=(linesL_le t).2 _ (List.getElem_mem hk); omega
 have HWT:=Lib.hid (lwM_at hk)
 have hcc:=List.count_le_length (a:=(32 : UInt8)) (l:=(linesL t)[k])
 have HWL : Hid (∀ x ∈ lwM t k,x.length ≤ 1000000):=Lib.hid (fun x hx => by
  rw [HWT.out] at hx
  have:=cutAt_sum 32 _ x hx; omega)
 have hwp : 0 < (lwM t k).length:=by rw [HWT.out]; exact List.length_pos_iff.2 (cutAt_ne _ _)
 have hwn : (lwM t k).length ≤ 1000001:=by rw [HWT.out,cutAt_len]; omega
 have hml:=mpR_len t k
 have hrl : rs.length ≤ 1000001:=by have:=congrArg List.length he1; rw [List.length_map] at this; omega
 have hdl : ds.length ≤ 1000001:=by have:=congrArg List.length he2; rw [List.length_map] at this; omega
 have HDL : Hid ((mpR t k).ds.length = ds.length):=Lib.hid (by rw [← he2,List.length_map])
 have HE1:=Lib.hid he1
 have HE2:=Lib.hid he2
 clear he1 he2 hml
 obtain ⟨st,hst⟩ : ∃ st,st = (mpR t k).st:=⟨_,rfl⟩
 obtain ⟨gl,hgl⟩ : ∃ gl,gl = (mpR t k).gl:=⟨_,rfl⟩
 rw [← hst,← hgl] at hbx
 have HST:=Lib.hid hst
 have HGL:=Lib.hid hgl
 clear hst hgl
 have BAD : Hid (∀ W',Stays L [b2] W W' → okM t k = false → MpLn t b2 L k W (.returned (.bool false)) W'):=Lib.hid (fun W' h1 h2 => ⟨by rw [h2],h1,fun h => by rw [h2] at h; cases h⟩)
 have GOOD : Hid (∀ W' x,Stays L [b2] W W' → okM t k = x → (x = true → MpA t b2 L (k + 1) W') → MpLn t b2 L k W (.returned (.bool x)) W'):=Lib.hid (fun W' x h1 h2 h3 => ⟨by rw [h2],h1,fun h => h3 (h2.symm.trans h)⟩)
 have HCW : Hid (cutAt 32 (linesL t)[k] = lwM t k):=Lib.hid HWT.out.symm
 generalize hP : MpLn t b2 L k W = Post at *
 clear hP
 generalize (linesL t)[k] = s at *
 have HFW : Hid (wordsB s (s.count 32 + 1) = fullW (lwM t k)):=Lib.hid (by unfold wordsB; rw [cutAt_len,HCW.out,decide_eq_true rfl]; rfl)
 have HFS:=Lib.hid hfst
 clear hfst
 go_enter Tryz.func73,Tryz.ntmps73
 go_wp2_with fail
 refine (count_any s 32 W).mono ?_
 rintro e w' ⟨rfl,rfl⟩
 generalize s.count 32 = cn at *
 go_wp2_with fail
 have ec : (cn : Int) + 1 = ((cn + 1 : Nat) : Int):=by push_cast; rfl
 rw [ec]
 clear ec
 refine (words_any s (cn + 1) _ (by omega) (by omega) hE.env).mono ?_
 rintro e w2 hW
 rcases hW with ⟨hwb,bw,rfl,hbw,hkw,hb⟩ | ⟨hwb,rfl,hb⟩
 rotate_left
 ·rw [HFW.out] at hwb
  have HOK:=Lib.hid (okM_full hwb)
  have hst:=Stays.of_below (bs:=[b2]) hb hL
  clear hwb hb hbx hmo hE
  go_wp2_with fail
  exact BAD.out _ hst HOK.out
 rw [HFW.out] at hwb
 have HF:=Lib.hid hwb
 rw [HCW.out] at hkw
 simp only [HCW.out]
 have hst:=Stays.of_below (bs:=[b2]) hb hL
 have hEB : EnvB B w2:=hE.below (hb.mono (Nat.le_trans hBL hL))
 replace hbx:=hbx.below hb
 replace hmo:=hmo.below hb
 have hz : L ≤ w2.heap.size:=Nat.le_trans hL hb.size
 have hbwL : L ≤ bw:=by omega
 have hne : b2 ≠ bw:=by omega
 have HCL : Hid (∀ W' : World,Blk W' bw 9 (strs (lwM t k)).toArray → ∀ j,j < (lwM t k).length → W'.cell? ⟨bw,j,none⟩ = some (.string ⟨((lwM t k).getD j []).toArray⟩)):=Lib.hid (fun W' h j hj => strs_cell h hj)
 clear hb hE hbw HFW hwb HWT HCW
 obtain ⟨w0,hw0⟩ : ∃ w0,w0 = (lwM t k).getD 0 []:=⟨_,rfl⟩
 have HW0:=Lib.hid hw0
 have c0:=HCL.out _ hkw 0 hwp
 rw [← hw0] at c0
 clear hw0
 obtain ⟨n,hn⟩ : ∃ n,n = (lwM t k).length:=⟨_,rfl⟩
 have HN:=Lib.hid hn
 rw [← hn] at hwp hwn HCL ⊢
 clear hn
 have hkw' : Hid (Blk w2 bw 9 (strs (lwM t k)).toArray):=Lib.hid hkw
 clear hkw
 have bwl : bw < w2.heap.size:=hkw'.out.lt
 by_cases hm : w0 = mapW
 ·have q1 : (w0 == [109,97,112]) = true:=beq_iff_eq.2 hm
  have HM:=Lib.hid hm
  cases fst with
  | false =>
   have HOK:=Lib.hid (okM_first HW0.out.symm (by rw [decide_eq_true hm,← HFS.out]; decide))
   clear hm
   go_wp2_with fail
   exact BAD.out _ hst HOK.out
  | true =>
   have hk0 : k = 0:=of_decide_eq_true HFS.out.symm
   have HOK0:=Lib.hid (okM_m HF.out (HW0.out.symm.trans hm) hk0)
   have q2 : (w0 == [114,111,111,109]) = false:=by rw [hm]; decide
   have q3 : (w0 == [100,111,111,114]) = false:=by rw [hm]; decide
   clear hm hk0
   by_cases hl : n = 3
   ·have d3 : ((n : Int) == 3) = true:=by rw [hl]; rfl
    have c1:=HCL.out _ hkw'.out 1 (by omega)
    have c2:=HCL.out _ hkw'.out 2 (by omega)
    have HOK : Hid (okM t k = true):=Lib.hid (by rw [HOK0.out,← HN.out]; exact decide_eq_true hl)
    obtain ⟨x,hx⟩ : ∃ x,x = (lwM t k).getD 1 []:=⟨_,rfl⟩
    obtain ⟨y,hy⟩ : ∃ y,y = (lwM t k).getD 2 []:=⟨_,rfl⟩
    rw [← hx] at c1
    rw [← hy] at c2
    have HX:=Lib.hid hx
    have HY:=Lib.hid hy
    have hn1 : 1 < n:=by omega
    have hn2 : 2 < n:=by omega
    clear hx hy HOK0 d3
    subst hl
    go_upto_region 5 with (fail)
    clear c0 c1 c2
    have hbz : Below w2.heap.size w2 w2.drew:=below_drewN' (Below.refl _ _) 1
    have hstD:=hst.trans (Stays.of_below (bs:=[b2]) hbz hz)
    have hbxD:=hbx.below hbz
    have hmoD:=hmo.below hbz
    have hkD:=hkw'.out.below hbz
    have hsc : (fun w' : World => w'.cell? ⟨bw,1,none⟩ = some (.string ⟨x.toArray⟩) ∧ w'.cell? ⟨bw,2,none⟩ = some (.string ⟨y.toArray⟩)) w2.drew:=⟨by rw [HX.out]; exact HCL.out _ hkD 1 hn1,by rw [HY.out]; exact HCL.out _ hkD 2 hn2⟩
    simp only at hsc
    have HPU:=Lib.hid (MpA.pushM hb2 (HW0.out.symm.trans HM.out) HX.out.symm HY.out.symm hbxD hmoD HE1.out HE2.out)
    have HS2:=Lib.hid ((hstD.set (p:=⟨b2,2,none⟩) (.inl (by simp)) (.string ⟨x.toArray⟩)).set (p:=⟨b2,3,none⟩) (.inl (by simp)) (.string ⟨y.toArray⟩))
    have g3 : w2.cell? ⟨b2,3,none⟩ = some (.string ⟨gl.toArray⟩):=hbx.cell 3
    have gf:=hbx.thaw 3
    have gz:=hbx.lt
    clear hst hbx hmo hmoD hstD hkD

    refine wp_region_held_drew (S:=(fun w' => w'.cell? ⟨bw,1,none⟩ = some (.string ⟨x.toArray⟩) ∧ w'.cell? ⟨bw,2,none⟩ = some (.string ⟨y.toArray⟩))) (by kernel_rfl) (hsc) (fun hHeld => ?_)
    (refine wpAnyH_take (i:=0) (v:=?_) (by (simp only [List.getElem?_toArray,List.getElem?_cons_zero]; rfl)) (by kernel_rfl) (by kernel_rfl) (by kernel_rfl) (by exact fun _ _ _ h => h) (Or.inl ⟨by rfl,?_⟩) (by assumption) ?_; (rotate_left 1; (intro w hSw; (try dsimp only at hSw); go_simp); (try with_reducible rfl)); (try simp only [Act.put,List.setIfInBounds_toArray,List.set_cons_zero,List.set_cons_succ]))
    (refine wpAnyH_take (i:=1) (v:=?_) (by (simp only [List.getElem?_toArray,List.getElem?_cons_succ,List.getElem?_cons_zero]; rfl)) (by kernel_rfl) (by kernel_rfl) (by kernel_rfl) (by exact fun _ _ _ h => h) (Or.inl ⟨by rfl,?_⟩) (by assumption) ?_; (rotate_left 1; (intro w hSw; (try dsimp only at hSw); go_simp); (try with_reducible rfl)); (try simp only [Act.put,List.setIfInBounds_toArray,List.set_cons_zero,List.set_cons_succ]))
    (refine wpAnyH_take (i:=2) (v:=?_) (by (simp only [List.getElem?_toArray,List.getElem?_cons_succ,List.getElem?_cons_zero]; rfl)) (by kernel_rfl) (by kernel_rfl) (by kernel_rfl) (by exact fun _ _ _ h => h) (Or.inl ⟨by rfl,?_⟩) (by assumption) ?_; (rotate_left 1; (intro w hSw; (try dsimp only at hSw); go_simp); (try with_reducible rfl)); (try simp only [Act.put,List.setIfInBounds_toArray,List.set_cons_zero,List.set_cons_succ]))
    (refine wpAnyH_take (i:=3) (v:=?_) (by (simp only [List.getElem?_toArray,List.getElem?_cons_succ,List.getElem?_cons_zero]; rfl)) (by kernel_rfl) (by kernel_rfl) (by kernel_rfl) (by exact fun _ _ _ h => h) (Or.inl ⟨by rfl,?_⟩) (by assumption) ?_; (rotate_left 1; (intro w hSw; (try dsimp only at hSw); go_simp); (try with_reducible rfl)); (try simp only [Act.put,List.setIfInBounds_toArray,List.set_cons_zero,List.set_cons_succ]))
    (refine wpAnyH_take (i:=4) (v:=?_) (by (simp only [List.getElem?_toArray,List.getElem?_cons_succ,List.getElem?_cons_zero]; rfl)) (by kernel_rfl) (by kernel_rfl) (by kernel_rfl) (by exact fun _ _ _ h => h) (Or.inl ⟨by rfl,?_⟩) (by assumption) ?_; (rotate_left 1; (intro w hSw; (try dsimp only at hSw); go_simp); (try with_reducible rfl)); (try simp only [Act.put,List.setIfInBounds_toArray,List.set_cons_zero,List.set_cons_succ]))
    (refine wpAnyH_take (i:=5) (v:=?_) (by (simp only [List.getElem?_toArray,List.getElem?_cons_succ,List.getElem?_cons_zero]; rfl)) (by kernel_rfl) (by kernel_rfl) (by kernel_rfl) (by exact fun _ _ _ h => h) (Or.inl ⟨by rfl,?_⟩) (by assumption) ?_; (rotate_left 1; (intro w hSw; (try dsimp only at hSw); go_simp); (try with_reducible rfl)); (try simp only [Act.put,List.setIfInBounds_toArray,List.set_cons_zero,List.set_cons_succ]))
    (refine wpAnyH_take (i:=6) (v:=?_) (by (simp only [List.getElem?_toArray,List.getElem?_cons_succ,List.getElem?_cons_zero]; rfl)) (by kernel_rfl) (by kernel_rfl) (by kernel_rfl) (by exact fun _ _ _ h => h) (Or.inl ⟨by rfl,?_⟩) (by assumption) ?_; (rotate_left 1; (intro w hSw; (try dsimp only at hSw); go_simp); (try with_reducible rfl)); (try simp only [Act.put,List.setIfInBounds_toArray,List.set_cons_zero,List.set_cons_succ]))
    (refine wpAnyH_take (i:=7) (v:=?_) (by (simp only [List.getElem?_toArray,List.getElem?_cons_succ,List.getElem?_cons_zero]; rfl)) (by kernel_rfl) (by kernel_rfl) (by kernel_rfl) (by exact fun _ _ _ h => h) (Or.inl ⟨by rfl,?_⟩) (by assumption) ?_; (rotate_left 1; (intro w hSw; (try dsimp only at hSw); go_simp); (try with_reducible rfl)); (try simp only [Act.put,List.setIfInBounds_toArray,List.set_cons_zero,List.set_cons_succ]))
    refine wpAnyH_ready (rs:=[8]) (by kernel_rfl) (by simp) ?_
    refine AllReadyH.cons rfl (fun K hK => ?_) AllReadyH.nil
    go_simp
    refine hK.out _ _ (hsc) (fun hHeld => ?_)
    clear hK K
    (try simp only [Act.put,List.setIfInBounds_toArray,List.set_cons_zero,List.set_cons_succ])
    (refine wpAnyH_take (i:=9) (v:=?_) (by (simp only [List.getElem?_toArray,List.getElem?_cons_succ,List.getElem?_cons_zero]; rfl)) (by kernel_rfl) (by kernel_rfl) (by kernel_rfl) (by exact fun _ _ _ h => h) (Or.inl ⟨by rfl,?_⟩) (by assumption) ?_; (rotate_left 1; (intro w hSw; (try dsimp only at hSw); go_simp); (try with_reducible rfl)); (try simp only [Act.put,List.setIfInBounds_toArray,List.set_cons_zero,List.set_cons_succ]))
    refine wpAnyH_ready (rs:=[10]) (by kernel_rfl) (by simp) ?_
    refine AllReadyH.cons rfl (fun K hK => ?_) AllReadyH.nil
    have f2:=hbxD.thaw 2
    have zb:=hbxD.lt
    obtain ⟨m0,m1,m2,m3⟩ : _ ∧ _ ∧ _ ∧ _:=⟨hbxD.cell 0,hbxD.cell 1,hbxD.cell 2,hbxD.cell 3⟩
    simp only [List.getElem?_toArray,List.getElem?_cons_zero,List.getElem?_cons_succ] at m0 m1 m2 m3
    go_simp
    clear f2 zb m0 m1 m2 m3
    replace hbxD:=hbxD.poke 2 (.string ⟨x.toArray⟩)
    replace hsc : (w2.drew.setCell ⟨b2,2,none⟩ (.string ⟨x.toArray⟩)).cell? ⟨bw,1,none⟩ = some (.string ⟨x.toArray⟩) ∧ (w2.drew.setCell ⟨b2,2,none⟩ (.string ⟨x.toArray⟩)).cell? ⟨bw,2,none⟩ = some (.string ⟨y.toArray⟩):=⟨cell_off hsc.1 hne,cell_off hsc.2 hne⟩
    refine hK.out _ _ (hsc) (fun hHeld => ?_)
    clear hK K
    (try simp only [Act.put,List.setIfInBounds_toArray,List.set_cons_zero,List.set_cons_succ])
    refine wpAnyH_ready (rs:=[11]) (by kernel_rfl) (by simp) ?_
    refine AllReadyH.cons rfl (fun K hK => ?_) AllReadyH.nil
    go_simp
    refine hK.out _ _ (hsc) (fun hHeld => ?_)
    clear hK K
    (try simp only [Act.put,List.setIfInBounds_toArray,List.set_cons_zero,List.set_cons_succ])
    (refine wpAnyH_take (i:=12) (v:=?_) (by (simp only [List.getElem?_toArray,List.getElem?_cons_succ,List.getElem?_cons_zero]; rfl)) (by kernel_rfl) (by kernel_rfl) (by kernel_rfl) (by exact fun _ _ _ h => h) (Or.inl ⟨by rfl,?_⟩) (by assumption) ?_; (rotate_left 1; (intro w hSw; (try dsimp only at hSw); go_simp); (try with_reducible rfl)); (try simp only [Act.put,List.setIfInBounds_toArray,List.set_cons_zero,List.set_cons_succ]))
    refine wpAnyH_ready (rs:=[13]) (by kernel_rfl) (by simp) ?_
    refine AllReadyH.cons rfl (fun K hK => ?_) AllReadyH.nil
    have f3:=hbxD.thaw 3
    have zb:=hbxD.lt
    obtain ⟨m0,m1,m2,m3⟩ : _ ∧ _ ∧ _ ∧ _:=⟨hbxD.cell 0,hbxD.cell 1,hbxD.cell 2,hbxD.cell 3⟩
    simp at m0 m1 m2 m3
    go_simp
    clear f3 zb m0 m1 m2 m3
    replace hsc : ((w2.drew.setCell ⟨b2,2,none⟩ (.string ⟨x.toArray⟩)).setCell ⟨b2,3,none⟩ (.string ⟨y.toArray⟩)).cell? ⟨bw,1,none⟩ = some (.string ⟨x.toArray⟩) ∧ ((w2.drew.setCell ⟨b2,2,none⟩ (.string ⟨x.toArray⟩)).setCell ⟨b2,3,none⟩ (.string ⟨y.toArray⟩)).cell? ⟨bw,2,none⟩ = some (.string ⟨y.toArray⟩):=⟨cell_off hsc.1 hne,cell_off hsc.2 hne⟩
    refine hK.out _ _ (hsc) (fun hHeld => ?_)
    clear hK K
    (try simp only [Act.put,List.setIfInBounds_toArray,List.set_cons_zero,List.set_cons_succ])
    refine wpAnyH_done (by kernel_rfl) ?_ _
    go_wp2_with fail
    exact GOOD.out _ _ HS2.out HOK.out (fun _ => HPU.out)
   ·have d3 : ((n : Int) == 3) = false:=beq_eq_false_iff_ne.2 (by omega)
    have HOK : Hid (okM t k = false):=Lib.hid (by rw [HOK0.out,← HN.out]; exact decide_eq_false hl)
    clear hl HOK0
    go_wp2_with fail
    exact BAD.out _ hst HOK.out
 have q1 : (w0 == [109,97,112]) = false:=beq_eq_false_iff_ne.2 hm
 cases fst with
 | true =>
  have HOK:=Lib.hid (okM_first HW0.out.symm (by rw [decide_eq_false hm,← HFS.out]; decide))
  clear hm
  go_wp2_with fail
  exact BAD.out _ hst HOK.out
 | false =>
 have HK0 : Hid (k ≠ 0):=Lib.hid (of_decide_eq_false HFS.out.symm)
 have HNM:=Lib.hid hm
 clear hm
 by_cases hr : w0 = roomW
 ·have q2 : (w0 == [114,111,111,109]) = true:=beq_iff_eq.2 hr
  have q3 : (w0 == [100,111,111,114]) = false:=by rw [hr]; decide
  have HR:=Lib.hid (HW0.out.symm.trans hr)
  have HOK0:=Lib.hid (okM_r HF.out HR.out HK0.out)
  clear hr
  by_cases hl : n = 3
  rotate_left
  ·have d3 : ((n : Int) == 3) = false:=beq_eq_false_iff_ne.2 (by omega)
   have HOK : Hid (okM t k = false):=Lib.hid (by rw [HOK0.out,← HN.out,decide_eq_false hl]; rfl)
   clear hl HOK0
   go_wp2_with fail
   exact BAD.out _ hst HOK.out
  have d3 : ((n : Int) == 3) = true:=by rw [hl]; rfl
  obtain ⟨m0,m1,m2,m3⟩ : _ ∧ _ ∧ _ ∧ _:=⟨hbx.cell 0,hbx.cell 1,hbx.cell 2,hbx.cell 3⟩
  simp only [List.getElem?_toArray,List.getElem?_cons_zero,List.getElem?_cons_succ] at m0 m1 m2 m3
  have zb:=hbx.lt
  by_cases hd : ds.length = 0
  rotate_left
  ·have d4 : ((ds.length : Int) == 0) = false:=beq_eq_false_iff_ne.2 (by omega)
   have HOK : Hid (okM t k = false):=Lib.hid (by rw [HOK0.out,HDL.out,decide_eq_false hd]; simp)
   clear hl hd HOK0
   go_wp2_with fail
   exact BAD.out _ hst HOK.out
  have d4 : ((ds.length : Int) == 0) = true:=by rw [hd]; rfl
  have HOK : Hid (okM t k = uncB ((lwM t k).getD 2 [])):=Lib.hid (by rw [HOK0.out,← HN.out,HDL.out,decide_eq_true hd,decide_eq_true hl]; simp)
  have c1:=HCL.out _ hkw'.out 1 (by omega)
  have c2:=HCL.out _ hkw'.out 2 (by omega)
  have hn1 : 1 < n:=by omega
  have hn2 : 2 < n:=by omega
  have HX1 : Hid (((lwM t k).getD 2 []).length ≤ 1000000):=Lib.hid (HWL.out _ (by rw [List.getD_eq_getElem?_getD,List.getElem?_eq_getElem (by rw [← HN.out]; omega)]; exact List.getElem_mem _))
  obtain ⟨x,hx⟩ : ∃ x,x = (lwM t k).getD 1 []:=⟨_,rfl⟩
  obtain ⟨y,hy⟩ : ∃ y,y = (lwM t k).getD 2 []:=⟨_,rfl⟩
  rw [← hx] at c1
  rw [← hy] at c2 HOK HX1
  have HX:=Lib.hid hx
  have HY:=Lib.hid hy
  clear hx hy hd HOK0 d3
  subst hl
  go_wp2_with fail
  refine (readCommas_any y _ HX1.out hEB.env).mono ?_
  rintro e w3 ⟨A7,c7,l7,rfl,hlo,hul,hll,hb⟩
  have HUL:=Lib.hid hul
  have hst3:=hst.trans (Stays.of_below (bs:=[b2]) hb hz)
  have hz3 : L ≤ w3.heap.size:=Nat.le_trans hz hb.size
  have hbx3:=hbx.below hb
  have hmo3:=hmo.below hb
  have hk3:=hkw'.out.below hb
  have hlo3 : LstO w3 L (A7,l7,c7):=own_weak hlo hz
  clear hul hst hbx hmo hlo c0 c1 c2 m0 m1 m2 m3 zb bwl hb
  obtain ⟨ux,hux⟩ : ∃ ux,ux = uncB y:=⟨_,rfl⟩
  rw [← hux] at HOK HUL ⊢
  clear hux
  have c1 : w3.cell? ⟨bw,1,none⟩ = some (.string ⟨x.toArray⟩):=by have h:=HCL.out _ hk3 1 hn1; rw [← HX.out] at h; exact h
  have bwl : bw < w3.heap.size:=hk3.lt
  go_upto_region 9 with (fail)
  clear c1 bwl
  have hbz : Below w3.heap.size w3 w3.drew:=below_drewN' (Below.refl _ _) 1
  replace hst3:=hst3.trans (Stays.of_below (bs:=[b2]) hbz hz3)
  replace hbx3:=hbx3.below hbz
  replace hmo3:=hmo3.below hbz
  replace hk3:=hk3.below hbz
  replace hlo3 : LstO w3.drew L (A7,l7,c7):=own_keep hlo3 hbz
  have hz3 : L ≤ w3.drew.heap.size:=Nat.le_trans hz3 hbz.size
  clear hbz
  have hsc : w3.drew.cell? ⟨bw,1,none⟩ = some (.string ⟨x.toArray⟩):=by have h:=HCL.out _ hk3 1 hn1; rw [← HX.out] at h; exact h
  obtain ⟨m0,m1,m2,m3⟩ : _ ∧ _ ∧ _ ∧ _:=⟨hbx3.cell 0,hbx3.cell 1,hbx3.cell 2,hbx3.cell 3⟩
  simp only [List.getElem?_toArray,List.getElem?_cons_zero,List.getElem?_cons_succ] at m0 m1 m2 m3
  have zb:=hbx3.lt

  refine wp_region_held_drew (S:=(fun w' => w'.cell? ⟨bw,1,none⟩ = some (.string ⟨x.toArray⟩))) (by kernel_rfl) (hsc) (fun hHeld => ?_)
  generalize w3.drew = X at *
  (refine wpAnyH_take (i:=0) (v:=?_) (by (simp only [List.getElem?_toArray,List.getElem?_cons_zero]; rfl)) (by kernel_rfl) (by kernel_rfl) (by kernel_rfl) (by exact fun _ _ _ h => h) (Or.inl ⟨by rfl,?_⟩) (by assumption) ?_; (rotate_left 1; (intro w hSw; (try dsimp only at hSw); go_simp); (try with_reducible rfl)); (try simp only [Act.put,List.setIfInBounds_toArray,List.set_cons_zero,List.set_cons_succ]))
  (refine wpAnyH_take (i:=1) (v:=?_) (by (simp only [List.getElem?_toArray,List.getElem?_cons_succ,List.getElem?_cons_zero]; rfl)) (by kernel_rfl) (by kernel_rfl) (by kernel_rfl) (by exact fun _ _ _ h => h) (Or.inl ⟨by rfl,?_⟩) (by assumption) ?_; (rotate_left 1; (intro w hSw; (try dsimp only at hSw); go_simp); (try with_reducible rfl)); (try simp only [Act.put,List.setIfInBounds_toArray,List.set_cons_zero,List.set_cons_succ]))
  (refine wpAnyH_take (i:=5) (v:=?_) (by (simp only [List.getElem?_toArray,List.getElem?_cons_succ,List.getElem?_cons_zero]; rfl)) (by kernel_rfl) (by kernel_rfl) (by kernel_rfl) (by exact fun _ _ _ h => h) (Or.inl ⟨by rfl,?_⟩) (by assumption) ?_; (rotate_left 1; (intro w hSw; (try dsimp only at hSw); go_simp); (try with_reducible rfl)); (try simp only [Act.put,List.setIfInBounds_toArray,List.set_cons_zero,List.set_cons_succ]))
  (refine wpAnyH_take (i:=6) (v:=?_) (by (simp only [List.getElem?_toArray,List.getElem?_cons_succ,List.getElem?_cons_zero]; rfl)) (by kernel_rfl) (by kernel_rfl) (by kernel_rfl) (by exact fun _ _ _ h => h) (Or.inl ⟨by rfl,?_⟩) (by assumption) ?_; (rotate_left 1; (intro w hSw; (try dsimp only at hSw); go_simp); (try with_reducible rfl)); (try simp only [Act.put,List.setIfInBounds_toArray,List.set_cons_zero,List.set_cons_succ]))
  (refine wpAnyH_take (i:=7) (v:=?_) (by (simp only [List.getElem?_toArray,List.getElem?_cons_succ,List.getElem?_cons_zero]; rfl)) (by kernel_rfl) (by kernel_rfl) (by kernel_rfl) (by exact fun _ _ _ h => h) (Or.inl ⟨by rfl,?_⟩) (by assumption) ?_; (rotate_left 1; (intro w hSw; (try dsimp only at hSw); go_simp); (try with_reducible rfl)); (try simp only [Act.put,List.setIfInBounds_toArray,List.set_cons_zero,List.set_cons_succ]))
  (refine wpAnyH_take (i:=8) (v:=?_) (by (simp only [List.getElem?_toArray,List.getElem?_cons_succ,List.getElem?_cons_zero]; rfl)) (by kernel_rfl) (by kernel_rfl) (by kernel_rfl) (by exact fun _ _ _ h => h) (Or.inl ⟨by rfl,?_⟩) (by assumption) ?_; (rotate_left 1; (intro w hSw; (try dsimp only at hSw); go_simp); (try with_reducible rfl)); (try simp only [Act.put,List.setIfInBounds_toArray,List.set_cons_zero,List.set_cons_succ]))
  (refine wpAnyH_take (i:=9) (v:=?_) (by (simp only [List.getElem?_toArray,List.getElem?_cons_succ,List.getElem?_cons_zero]; rfl)) (by kernel_rfl) (by kernel_rfl) (by kernel_rfl) (by exact fun _ _ _ h => h) (Or.inl ⟨by rfl,?_⟩) (by assumption) ?_; (rotate_left 1; (intro w hSw; (try dsimp only at hSw); go_simp); (try with_reducible rfl)); (try simp only [Act.put,List.setIfInBounds_toArray,List.set_cons_zero,List.set_cons_succ]))
  refine wpAnyH_ready (rs:=[2,10]) (by kernel_rfl) (by simp) ?_
  refine AllReadyH.cons rfl (fun K hK => ?_) (AllReadyH.cons rfl (fun K hK => ?_) AllReadyH.nil)
  case refine_1 =>
   go_simp
   refine hK.out _ _ (hsc) (fun hHeld => ?_)
   clear hK K
   (try simp only [Act.put,List.setIfInBounds_toArray,List.set_cons_zero,List.set_cons_succ])
   (refine wpAnyH_take (i:=3) (v:=?_) (by (simp only [List.getElem?_toArray,List.getElem?_cons_succ,List.getElem?_cons_zero]; rfl)) (by kernel_rfl) (by kernel_rfl) (by kernel_rfl) (by exact fun _ _ _ h => h) (Or.inl ⟨by rfl,?_⟩) (by assumption) ?_; (rotate_left 1; (intro w hSw; (try dsimp only at hSw); go_simp); (try with_reducible rfl)); (try simp only [Act.put,List.setIfInBounds_toArray,List.set_cons_zero,List.set_cons_succ]))
   refine wpAnyH_ready (rs:=[4,10]) (by kernel_rfl) (by simp) ?_
   refine AllReadyH.cons rfl (fun K hK => ?_) (AllReadyH.cons rfl (fun K hK => ?_) AllReadyH.nil)
   case refine_1 =>
    go_simp
    refine hK.out _ _ (hsc) (fun hHeld => ?_)
    clear hK K
    (try simp only [Act.put,List.setIfInBounds_toArray,List.set_cons_zero,List.set_cons_succ])
    refine wpAnyH_ready (rs:=[10]) (by kernel_rfl) (by simp) ?_
    refine AllReadyH.cons rfl (fun K hK => ?_) AllReadyH.nil
    go_simp
    have hnb : Blk (X.alloc (.cells #[.string ⟨x.toArray⟩,.slice A7 l7.length c7] 62)) X.heap.size 62 #[.string ⟨x.toArray⟩,.slice A7 l7.length c7]:=Blk.new _ _ _
    replace hst3:=hst3.alloc hz3 (.cells #[.string ⟨x.toArray⟩,.slice A7 l7.length c7] 62)
    replace hbx3:=hbx3.alloc (.cells #[.string ⟨x.toArray⟩,.slice A7 l7.length c7] 62)
    replace hmo3:=hmo3.alloc (.cells #[.string ⟨x.toArray⟩,.slice A7 l7.length c7] 62)
    replace hk3:=hk3.alloc (.cells #[.string ⟨x.toArray⟩,.slice A7 l7.length c7] 62)
    replace hlo3 : LstO (X.alloc (.cells #[.string ⟨x.toArray⟩,.slice A7 l7.length c7] 62)) L (A7,l7,c7):=hlo3.alloc _
    have hz4 : L ≤ (X.alloc (.cells #[.string ⟨x.toArray⟩,.slice A7 l7.length c7] 62)).heap.size:=by simp; omega
    clear m0 m1 m2 m3 zb
    obtain ⟨m0,m1,m2,m3⟩ : _ ∧ _ ∧ _ ∧ _:=⟨hbx3.cell 0,hbx3.cell 1,hbx3.cell 2,hbx3.cell 3⟩
    simp only [List.getElem?_toArray,List.getElem?_cons_zero,List.getElem?_cons_succ] at m0 m1 m2 m3
    have zb:=hbx3.lt
    replace hsc : (X.alloc (.cells #[.string ⟨x.toArray⟩,.slice A7 l7.length c7] 62)).cell? ⟨bw,1,none⟩ = some (.string ⟨x.toArray⟩):=by have h:=HCL.out _ hk3 1 hn1; rw [← HX.out] at h; exact h
    refine hK.out _ _ (hsc) (fun hHeld => ?_)
    clear hK K
    (try simp only [Act.put,List.setIfInBounds_toArray,List.set_cons_zero,List.set_cons_succ])
    refine wpAnyH_ready (rs:=[11]) (by kernel_rfl) (by simp) ?_
    refine AllReadyH.cons rfl (fun K hK => ?_) AllReadyH.nil
    refine step_app (lo:=L) (base:=L) (n:=rs.length) (xs:=rs.flatMap encR) _ rfl _ _ ty_roomz rfl hmo3.rooms rfl (Row.lit hnb (Nat.le_trans hz3 (Nat.le_refl _)) rfl : Row _ L 2 _ 1 _) rfl rfl (by omega) (by omega) hz4 ?_
    intro A8 c8 w8 hown8 hg8 _
    have hown8' : w8.ownsRow L 62 2 (.slice A8 (rs.length + 1) c8) (rs.length + 1) (rs.flatMap encR ++ [.string ⟨x.toArray⟩,.slice A7 l7.length c7]):=hown8
    have HPU : Hid (ux = true → MpA t b2 L (k + 1) (w8.setCell ⟨b2,0,none⟩ (.slice A8 (rs.length + 1) c8))):=Lib.hid (fun hu => MpA.pushR hb2 HR.out HX.out.symm ((HUL.out hu).trans (by rw [HY.out])) HST.out HGL.out hbx3 hmo3 HE1.out HE2.out hlo3 hg8 hown8')
    have HS8:=Lib.hid ((hst3.grown hg8 hz4 (fun q hq => (hmo3.rooms.lt q hq).1)).set (p:=⟨b2,0,none⟩) (.inl (by simp)) (.slice A8 (rs.length + 1) c8))
    have hbx8:=hbx3.otherOf hg8 (own_kindOf hmo3.rooms) (by decide)
    have hk8:=hk3.otherOf hg8 (own_kindOf hmo3.rooms) (by decide)
    clear m0 m1 m2 m3 zb hown8 hown8' hg8 hbx3 hmo3 hlo3 hst3 hk3 hnb
    obtain ⟨m0,m1,m2,m3⟩ : _ ∧ _ ∧ _ ∧ _:=⟨hbx8.cell 0,hbx8.cell 1,hbx8.cell 2,hbx8.cell 3⟩
    simp only [List.getElem?_toArray,List.getElem?_cons_zero,List.getElem?_cons_succ] at m0 m1 m2 m3
    have zb:=hbx8.lt
    have f0:=hbx8.thaw 0
    replace hsc : w8.cell? ⟨bw,1,none⟩ = some (.string ⟨x.toArray⟩):=by have h:=HCL.out _ hk8 1 hn1; rw [← HX.out] at h; exact h
    refine hK.out _ _ (hsc) (fun hHeld => ?_)
    clear hK K
    (try simp only [Act.put,List.setIfInBounds_toArray,List.set_cons_zero,List.set_cons_succ])
    refine wpAnyH_ready (rs:=[12]) (by kernel_rfl) (by simp) ?_
    refine AllReadyH.cons rfl (fun K hK => ?_) AllReadyH.nil
    go_simp
    refine hK.out _ _ (hsc) (fun hHeld => ?_)
    clear hK K
    (try simp only [Act.put,List.setIfInBounds_toArray,List.set_cons_zero,List.set_cons_succ])
    (refine wpAnyH_take (i:=13) (v:=?_) (by (simp only [List.getElem?_toArray,List.getElem?_cons_succ,List.getElem?_cons_zero]; rfl)) (by kernel_rfl) (by kernel_rfl) (by kernel_rfl) (by exact fun _ _ _ h => h) (Or.inl ⟨by rfl,?_⟩) (by assumption) ?_; (rotate_left 1; (intro w hSw; (try dsimp only at hSw); go_simp); (try with_reducible rfl)); (try simp only [Act.put,List.setIfInBounds_toArray,List.set_cons_zero,List.set_cons_succ]))
    refine wpAnyH_ready (rs:=[14]) (by kernel_rfl) (by simp) ?_
    refine AllReadyH.cons rfl (fun K hK => ?_) AllReadyH.nil
    go_simp
    clear m0 m1 m2 m3 zb f0
    replace hsc : (w8.setCell ⟨b2,0,none⟩ (.slice A8 (rs.length + 1) c8)).cell? ⟨bw,1,none⟩ = some (.string ⟨x.toArray⟩):=cell_off hsc hne
    refine hK.out _ _ (hsc) (fun hHeld => ?_)
    clear hK K
    (try simp only [Act.put,List.setIfInBounds_toArray,List.set_cons_zero,List.set_cons_succ])
    refine wpAnyH_done (by kernel_rfl) ?_ _
    go_wp2_with fail
    exact GOOD.out _ _ HS8.out HOK.out HPU.out
   case refine_2 =>
    go_simp
    have hnb : Blk (X.alloc (.cells #[.string ⟨x.toArray⟩,.slice A7 l7.length c7] 62)) X.heap.size 62 #[.string ⟨x.toArray⟩,.slice A7 l7.length c7]:=Blk.new _ _ _
    replace hst3:=hst3.alloc hz3 (.cells #[.string ⟨x.toArray⟩,.slice A7 l7.length c7] 62)
    replace hbx3:=hbx3.alloc (.cells #[.string ⟨x.toArray⟩,.slice A7 l7.length c7] 62)
    replace hmo3:=hmo3.alloc (.cells #[.string ⟨x.toArray⟩,.slice A7 l7.length c7] 62)
    replace hk3:=hk3.alloc (.cells #[.string ⟨x.toArray⟩,.slice A7 l7.length c7] 62)
    replace hlo3 : LstO (X.alloc (.cells #[.string ⟨x.toArray⟩,.slice A7 l7.length c7] 62)) L (A7,l7,c7):=hlo3.alloc _
    have hz4 : L ≤ (X.alloc (.cells #[.string ⟨x.toArray⟩,.slice A7 l7.length c7] 62)).heap.size:=by simp; omega
    clear m0 m1 m2 m3 zb
    obtain ⟨m0,m1,m2,m3⟩ : _ ∧ _ ∧ _ ∧ _:=⟨hbx3.cell 0,hbx3.cell 1,hbx3.cell 2,hbx3.cell 3⟩
    simp only [List.getElem?_toArray,List.getElem?_cons_zero,List.getElem?_cons_succ] at m0 m1 m2 m3
    have zb:=hbx3.lt
    replace hsc : (X.alloc (.cells #[.string ⟨x.toArray⟩,.slice A7 l7.length c7] 62)).cell? ⟨bw,1,none⟩ = some (.string ⟨x.toArray⟩):=by have h:=HCL.out _ hk3 1 hn1; rw [← HX.out] at h; exact h
    refine hK.out _ _ (hsc) (fun hHeld => ?_)
    clear hK K
    (try simp only [Act.put,List.setIfInBounds_toArray,List.set_cons_zero,List.set_cons_succ])
    refine wpAnyH_ready (rs:=[4]) (by kernel_rfl) (by simp) ?_
    refine AllReadyH.cons rfl (fun K hK => ?_) AllReadyH.nil
    go_simp
    refine hK.out _ _ (hsc) (fun hHeld => ?_)
    clear hK K
    (try simp only [Act.put,List.setIfInBounds_toArray,List.set_cons_zero,List.set_cons_succ])
    refine wpAnyH_ready (rs:=[11]) (by kernel_rfl) (by simp) ?_
    refine AllReadyH.cons rfl (fun K hK => ?_) AllReadyH.nil
    refine step_app (lo:=L) (base:=L) (n:=rs.length) (xs:=rs.flatMap encR) _ rfl _ _ ty_roomz rfl hmo3.rooms rfl (Row.lit hnb (Nat.le_trans hz3 (Nat.le_refl _)) rfl : Row _ L 2 _ 1 _) rfl rfl (by omega) (by omega) hz4 ?_
    intro A8 c8 w8 hown8 hg8 _
    have hown8' : w8.ownsRow L 62 2 (.slice A8 (rs.length + 1) c8) (rs.length + 1) (rs.flatMap encR ++ [.string ⟨x.toArray⟩,.slice A7 l7.length c7]):=hown8
    have HPU : Hid (ux = true → MpA t b2 L (k + 1) (w8.setCell ⟨b2,0,none⟩ (.slice A8 (rs.length + 1) c8))):=Lib.hid (fun hu => MpA.pushR hb2 HR.out HX.out.symm ((HUL.out hu).trans (by rw [HY.out])) HST.out HGL.out hbx3 hmo3 HE1.out HE2.out hlo3 hg8 hown8')
    have HS8:=Lib.hid ((hst3.grown hg8 hz4 (fun q hq => (hmo3.rooms.lt q hq).1)).set (p:=⟨b2,0,none⟩) (.inl (by simp)) (.slice A8 (rs.length + 1) c8))
    have hbx8:=hbx3.otherOf hg8 (own_kindOf hmo3.rooms) (by decide)
    have hk8:=hk3.otherOf hg8 (own_kindOf hmo3.rooms) (by decide)
    clear m0 m1 m2 m3 zb hown8 hown8' hg8 hbx3 hmo3 hlo3 hst3 hk3 hnb
    obtain ⟨m0,m1,m2,m3⟩ : _ ∧ _ ∧ _ ∧ _:=⟨hbx8.cell 0,hbx8.cell 1,hbx8.cell 2,hbx8.cell 3⟩
    simp only [List.getElem?_toArray,List.getElem?_cons_zero,List.getElem?_cons_succ] at m0 m1 m2 m3
    have zb:=hbx8.lt
    have f0:=hbx8.thaw 0
    replace hsc : w8.cell? ⟨bw,1,none⟩ = some (.string ⟨x.toArray⟩):=by have h:=HCL.out _ hk8 1 hn1; rw [← HX.out] at h; exact h
    refine hK.out _ _ (hsc) (fun hHeld => ?_)
    clear hK K
    (try simp only [Act.put,List.setIfInBounds_toArray,List.set_cons_zero,List.set_cons_succ])
    refine wpAnyH_ready (rs:=[12]) (by kernel_rfl) (by simp) ?_
    refine AllReadyH.cons rfl (fun K hK => ?_) AllReadyH.nil
    go_simp
    refine hK.out _ _ (hsc) (fun hHeld => ?_)
    clear hK K
    (try simp only [Act.put,List.setIfInBounds_toArray,List.set_cons_zero,List.set_cons_succ])
    (refine wpAnyH_take (i:=13) (v:=?_) (by (simp only [List.getElem?_toArray,List.getElem?_cons_succ,List.getElem?_cons_zero]; rfl)) (by kernel_rfl) (by kernel_rfl) (by kernel_rfl) (by exact fun _ _ _ h => h) (Or.inl ⟨by rfl,?_⟩) (by assumption) ?_; (rotate_left 1; (intro w hSw; (try dsimp only at hSw); go_simp); (try with_reducible rfl)); (try simp only [Act.put,List.setIfInBounds_toArray,List.set_cons_zero,List.set_cons_succ]))
    refine wpAnyH_ready (rs:=[14]) (by kernel_rfl) (by simp) ?_
    refine AllReadyH.cons rfl (fun K hK => ?_) AllReadyH.nil
    go_simp
    clear m0 m1 m2 m3 zb f0
    replace hsc : (w8.setCell ⟨b2,0,none⟩ (.slice A8 (rs.length + 1) c8)).cell? ⟨bw,1,none⟩ = some (.string ⟨x.toArray⟩):=cell_off hsc hne
    refine hK.out _ _ (hsc) (fun hHeld => ?_)
    clear hK K
    (try simp only [Act.put,List.setIfInBounds_toArray,List.set_cons_zero,List.set_cons_succ])
    refine wpAnyH_done (by kernel_rfl) ?_ _
    go_wp2_with fail
    exact GOOD.out _ _ HS8.out HOK.out HPU.out
  case refine_2 =>
   go_simp
   have hnb : Blk (X.alloc (.cells #[.string ⟨x.toArray⟩,.slice A7 l7.length c7] 62)) X.heap.size 62 #[.string ⟨x.toArray⟩,.slice A7 l7.length c7]:=Blk.new _ _ _
   replace hst3:=hst3.alloc hz3 (.cells #[.string ⟨x.toArray⟩,.slice A7 l7.length c7] 62)
   replace hbx3:=hbx3.alloc (.cells #[.string ⟨x.toArray⟩,.slice A7 l7.length c7] 62)
   replace hmo3:=hmo3.alloc (.cells #[.string ⟨x.toArray⟩,.slice A7 l7.length c7] 62)
   replace hk3:=hk3.alloc (.cells #[.string ⟨x.toArray⟩,.slice A7 l7.length c7] 62)
   replace hlo3 : LstO (X.alloc (.cells #[.string ⟨x.toArray⟩,.slice A7 l7.length c7] 62)) L (A7,l7,c7):=hlo3.alloc _
   have hz4 : L ≤ (X.alloc (.cells #[.string ⟨x.toArray⟩,.slice A7 l7.length c7] 62)).heap.size:=by simp; omega
   clear m0 m1 m2 m3 zb
   obtain ⟨m0,m1,m2,m3⟩ : _ ∧ _ ∧ _ ∧ _:=⟨hbx3.cell 0,hbx3.cell 1,hbx3.cell 2,hbx3.cell 3⟩
   simp only [List.getElem?_toArray,List.getElem?_cons_zero,List.getElem?_cons_succ] at m0 m1 m2 m3
   have zb:=hbx3.lt
   replace hsc : (X.alloc (.cells #[.string ⟨x.toArray⟩,.slice A7 l7.length c7] 62)).cell? ⟨bw,1,none⟩ = some (.string ⟨x.toArray⟩):=by have h:=HCL.out _ hk3 1 hn1; rw [← HX.out] at h; exact h
   refine hK.out _ _ (hsc) (fun hHeld => ?_)
   clear hK K
   (try simp only [Act.put,List.setIfInBounds_toArray,List.set_cons_zero,List.set_cons_succ])
   refine wpAnyH_ready (rs:=[2]) (by kernel_rfl) (by simp) ?_
   refine AllReadyH.cons rfl (fun K hK => ?_) AllReadyH.nil
   go_simp
   refine hK.out _ _ (hsc) (fun hHeld => ?_)
   clear hK K
   (try simp only [Act.put,List.setIfInBounds_toArray,List.set_cons_zero,List.set_cons_succ])
   (refine wpAnyH_take (i:=3) (v:=?_) (by (simp only [List.getElem?_toArray,List.getElem?_cons_succ,List.getElem?_cons_zero]; rfl)) (by kernel_rfl) (by kernel_rfl) (by kernel_rfl) (by exact fun _ _ _ h => h) (Or.inl ⟨by rfl,?_⟩) (by assumption) ?_; (rotate_left 1; (intro w hSw; (try dsimp only at hSw); go_simp); (try with_reducible rfl)); (try simp only [Act.put,List.setIfInBounds_toArray,List.set_cons_zero,List.set_cons_succ]))
   refine wpAnyH_ready (rs:=[4]) (by kernel_rfl) (by simp) ?_
   refine AllReadyH.cons rfl (fun K hK => ?_) AllReadyH.nil
   go_simp
   refine hK.out _ _ (hsc) (fun hHeld => ?_)
   clear hK K
   (try simp only [Act.put,List.setIfInBounds_toArray,List.set_cons_zero,List.set_cons_succ])
   refine wpAnyH_ready (rs:=[11]) (by kernel_rfl) (by simp) ?_
   refine AllReadyH.cons rfl (fun K hK => ?_) AllReadyH.nil
   refine step_app (lo:=L) (base:=L) (n:=rs.length) (xs:=rs.flatMap encR) _ rfl _ _ ty_roomz rfl hmo3.rooms rfl (Row.lit hnb (Nat.le_trans hz3 (Nat.le_refl _)) rfl : Row _ L 2 _ 1 _) rfl rfl (by omega) (by omega) hz4 ?_
   intro A8 c8 w8 hown8 hg8 _
   have hown8' : w8.ownsRow L 62 2 (.slice A8 (rs.length + 1) c8) (rs.length + 1) (rs.flatMap encR ++ [.string ⟨x.toArray⟩,.slice A7 l7.length c7]):=hown8
   have HPU : Hid (ux = true → MpA t b2 L (k + 1) (w8.setCell ⟨b2,0,none⟩ (.slice A8 (rs.length + 1) c8))):=Lib.hid (fun hu => MpA.pushR hb2 HR.out HX.out.symm ((HUL.out hu).trans (by rw [HY.out])) HST.out HGL.out hbx3 hmo3 HE1.out HE2.out hlo3 hg8 hown8')
   have HS8:=Lib.hid ((hst3.grown hg8 hz4 (fun q hq => (hmo3.rooms.lt q hq).1)).set (p:=⟨b2,0,none⟩) (.inl (by simp)) (.slice A8 (rs.length + 1) c8))
   have hbx8:=hbx3.otherOf hg8 (own_kindOf hmo3.rooms) (by decide)
   have hk8:=hk3.otherOf hg8 (own_kindOf hmo3.rooms) (by decide)
   clear m0 m1 m2 m3 zb hown8 hown8' hg8 hbx3 hmo3 hlo3 hst3 hk3 hnb
   obtain ⟨m0,m1,m2,m3⟩ : _ ∧ _ ∧ _ ∧ _:=⟨hbx8.cell 0,hbx8.cell 1,hbx8.cell 2,hbx8.cell 3⟩
   simp only [List.getElem?_toArray,List.getElem?_cons_zero,List.getElem?_cons_succ] at m0 m1 m2 m3
   have zb:=hbx8.lt
   have f0:=hbx8.thaw 0
   replace hsc : w8.cell? ⟨bw,1,none⟩ = some (.string ⟨x.toArray⟩):=by have h:=HCL.out _ hk8 1 hn1; rw [← HX.out] at h; exact h
   refine hK.out _ _ (hsc) (fun hHeld => ?_)
   clear hK K
   (try simp only [Act.put,List.setIfInBounds_toArray,List.set_cons_zero,List.set_cons_succ])
   refine wpAnyH_ready (rs:=[12]) (by kernel_rfl) (by simp) ?_
   refine AllReadyH.cons rfl (fun K hK => ?_) AllReadyH.nil
   go_simp
   refine hK.out _ _ (hsc) (fun hHeld => ?_)
   clear hK K
   (try simp only [Act.put,List.setIfInBounds_toArray,List.set_cons_zero,List.set_cons_succ])
   (refine wpAnyH_take (i:=13) (v:=?_) (by (simp only [List.getElem?_toArray,List.getElem?_cons_succ,List.getElem?_cons_zero]; rfl)) (by kernel_rfl) (by kernel_rfl) (by kernel_rfl) (by exact fun _ _ _ h => h) (Or.inl ⟨by rfl,?_⟩) (by assumption) ?_; (rotate_left 1; (intro w hSw; (try dsimp only at hSw); go_simp); (try with_reducible rfl)); (try simp only [Act.put,List.setIfInBounds_toArray,List.set_cons_zero,List.set_cons_succ]))
   refine wpAnyH_ready (rs:=[14]) (by kernel_rfl) (by simp) ?_
   refine AllReadyH.cons rfl (fun K hK => ?_) AllReadyH.nil
   go_simp
   clear m0 m1 m2 m3 zb f0
   replace hsc : (w8.setCell ⟨b2,0,none⟩ (.slice A8 (rs.length + 1) c8)).cell? ⟨bw,1,none⟩ = some (.string ⟨x.toArray⟩):=cell_off hsc hne
   refine hK.out _ _ (hsc) (fun hHeld => ?_)
   clear hK K
   (try simp only [Act.put,List.setIfInBounds_toArray,List.set_cons_zero,List.set_cons_succ])
   refine wpAnyH_done (by kernel_rfl) ?_ _
   go_wp2_with fail
   exact GOOD.out _ _ HS8.out HOK.out HPU.out
 have q2 : (w0 == [114,111,111,109]) = false:=beq_eq_false_iff_ne.2 hr
 by_cases hd : w0 = doorW
 rotate_left
 ·have q3 : (w0 == [100,111,111,114]) = false:=beq_eq_false_iff_ne.2 hd
  have HOK:=Lib.hid (okM_n HW0.out.symm HNM.out hr hd)
  clear hr hd
  go_wp2_with fail
  exact BAD.out _ hst HOK.out
 have q3 : (w0 == [100,111,111,114]) = true:=beq_iff_eq.2 hd
 have HR:=Lib.hid (HW0.out.symm.trans hd)
 have HOK0:=Lib.hid (okM_d HF.out HR.out HK0.out)
 clear hd hr
 by_cases hl : n = 8
 rotate_left
 ·have d3 : ((n : Int) == 8) = false:=beq_eq_false_iff_ne.2 (by omega)
  have HOK : Hid (okM t k = false):=Lib.hid (by rw [HOK0.out,← HN.out,decide_eq_false hl]; rfl)
  clear hl HOK0
  go_wp2_with fail
  exact BAD.out _ hst HOK.out
 have HOK : Hid (okM t k = (numB ((lwM t k).getD 4 []) 9 && uncB ((lwM t k).getD 5 []) && uncB ((lwM t k).getD 6 []))):=Lib.hid (by rw [HOK0.out,← HN.out,decide_eq_true hl]; simp)
 have HXL : Hid (∀ j,j < 8 → ((lwM t k).getD j []).length ≤ 1000000):=Lib.hid (fun j hj => HWL.out _ (by rw [List.getD_eq_getElem?_getD,List.getElem?_eq_getElem (by rw [← HN.out]; omega)]; exact List.getElem_mem _))
 have HC8 : Hid (∀ W' : World,Blk W' bw 9 (strs (lwM t k)).toArray → ∀ j,j < 8 → W'.cell? ⟨bw,j,none⟩ = some (.string ⟨((lwM t k).getD j []).toArray⟩)):=Lib.hid (fun W' h j hj => HCL.out W' h j (by omega))
 clear HOK0 HCL
 subst hl
 obtain ⟨x1,hx1⟩ : ∃ x,x = (lwM t k).getD 1 []:=⟨_,rfl⟩
 have HX1:=Lib.hid hx1
 obtain ⟨x2,hx2⟩ : ∃ x,x = (lwM t k).getD 2 []:=⟨_,rfl⟩
 have HX2:=Lib.hid hx2
 obtain ⟨x3,hx3⟩ : ∃ x,x = (lwM t k).getD 3 []:=⟨_,rfl⟩
 have HX3:=Lib.hid hx3
 obtain ⟨x4,hx4⟩ : ∃ x,x = (lwM t k).getD 4 []:=⟨_,rfl⟩
 have HX4:=Lib.hid hx4
 obtain ⟨x5,hx5⟩ : ∃ x,x = (lwM t k).getD 5 []:=⟨_,rfl⟩
 have HX5:=Lib.hid hx5
 obtain ⟨x6,hx6⟩ : ∃ x,x = (lwM t k).getD 6 []:=⟨_,rfl⟩
 have HX6:=Lib.hid hx6
 obtain ⟨x7,hx7⟩ : ∃ x,x = (lwM t k).getD 7 []:=⟨_,rfl⟩
 have HX7:=Lib.hid hx7
 have c4:=HC8.out _ hkw'.out 4 (by omega)
 have hl4:=HXL.out 4 (by omega)
 have hl5:=HXL.out 5 (by omega)
 have hl6:=HXL.out 6 (by omega)
 rw [← hx4,← hx5,← hx6] at HOK
 rw [← hx4] at c4 hl4
 rw [← hx5] at hl5
 rw [← hx6] at hl6
 clear hx1 hx2 hx3 hx4 hx5 hx6 hx7
 go_wp2_with fail
 refine (number_any x4 9 _ (by decide) (by omega)).mono ?_
 rintro e w3 ⟨rfl,hb⟩
 have hst3:=hst.trans (Stays.of_below (bs:=[b2]) hb hz)
 have hz3 : L ≤ w3.heap.size:=Nat.le_trans hz hb.size
 have hEB3:=hEB.below (hb.mono (by omega))
 have hbx3:=hbx.below hb
 have hmo3:=hmo.below hb
 have hk3:=hkw'.out.below hb
 clear hst hbx hmo c0 c4 bwl hEB hz hb
 obtain ⟨nv,hnv⟩ : ∃ nv,nv = numV x4 9:=⟨_,rfl⟩
 obtain ⟨nb,hnb⟩ : ∃ nb,nb = numB x4 9:=⟨_,rfl⟩
 rw [← hnb] at HOK
 rw [← hnb,← hnv]
 have HNV:=Lib.hid hnv
 clear hnv hnb
 have c5 : w3.cell? ⟨bw,5,none⟩ = some (.string ⟨x5.toArray⟩):=by have h:=HC8.out _ hk3 5 (by omega); rw [← HX5.out] at h; exact h
 have bwl : bw < w3.heap.size:=hk3.lt
 go_wp2_with fail
 refine (readCommas_any x5 _ hl5 hEB3.env).mono ?_
 rintro e w4 ⟨A7,c7,l7,rfl,hlo,hul,-,hb⟩
 have HU5:=Lib.hid hul
 have hlo7 : LstO w4 L (A7,l7,c7):=own_weak hlo hz3
 have hst4:=hst3.trans (Stays.of_below (bs:=[b2]) hb hz3)
 have hz4 : L ≤ w4.heap.size:=Nat.le_trans hz3 hb.size
 have hEB4:=hEB3.below (hb.mono (by omega))
 have hbx4:=hbx3.below hb
 have hmo4:=hmo3.below hb
 have hk4:=hk3.below hb
 clear hul hlo hst3 hbx3 hmo3 hk3 hEB3 c5 bwl hz3 hb
 obtain ⟨u5,hu5⟩ : ∃ u,u = uncB x5:=⟨_,rfl⟩
 rw [← hu5] at HOK HU5 ⊢
 clear hu5
 have c6 : w4.cell? ⟨bw,6,none⟩ = some (.string ⟨x6.toArray⟩):=by have h:=HC8.out _ hk4 6 (by omega); rw [← HX6.out] at h; exact h
 have bwl : bw < w4.heap.size:=hk4.lt
 go_wp2_with fail
 refine (readCommas_any x6 _ hl6 hEB4.env).mono ?_
 rintro e w5 ⟨A8,c8,l8,rfl,hlo,hul,-,hb⟩
 have HU6:=Lib.hid hul
 have hlo8 : LstO w5 L (A8,l8,c8):=own_weak hlo hz4
 replace hlo7 : LstO w5 L (A7,l7,c7):=own_keep hlo7 hb
 have hst5:=hst4.trans (Stays.of_below (bs:=[b2]) hb hz4)
 have hz5 : L ≤ w5.heap.size:=Nat.le_trans hz4 hb.size
 have hbx5:=hbx4.below hb
 have hmo5:=hmo4.below hb
 have hk5:=hk4.below hb
 clear hul hlo hst4 hbx4 hmo4 hk4 hEB4 c6 bwl hz4 hb
 obtain ⟨u6,hu6⟩ : ∃ u,u = uncB x6:=⟨_,rfl⟩
 rw [← hu6] at HOK HU6 ⊢
 clear hu6
 go_upto_region 15 with (fail)
 have hbz : Below w5.heap.size w5 w5.drew:=below_drewN' (Below.refl _ _) 1
 replace hst5:=hst5.trans (Stays.of_below (bs:=[b2]) hbz hz5)
 replace hz5 : L ≤ w5.drew.heap.size:=Nat.le_trans hz5 hbz.size
 replace hbx5:=hbx5.below hbz
 replace hmo5:=hmo5.below hbz
 replace hk5:=hk5.below hbz
 replace hlo7 : LstO w5.drew L (A7,l7,c7):=own_keep hlo7 hbz
 replace hlo8 : LstO w5.drew L (A8,l8,c8):=own_keep hlo8 hbz
 clear hbz
 have HSC : Hid (∀ W' : World,Blk W' bw 9 (strs (lwM t k)).toArray → (fun w' : World => w'.cell? ⟨bw,1,none⟩ = some (.string ⟨x1.toArray⟩) ∧ w'.cell? ⟨bw,2,none⟩ = some (.string ⟨x2.toArray⟩) ∧ w'.cell? ⟨bw,3,none⟩ = some (.string ⟨x3.toArray⟩) ∧ w'.cell? ⟨bw,7,none⟩ = some (.string ⟨x7.toArray⟩)) W'):=Lib.hid (fun W' h => ⟨by have h:=HC8.out _ h 1 (by omega); rw [← HX1.out] at h; exact h,by have h:=HC8.out _ h 2 (by omega); rw [← HX2.out] at h; exact h,by have h:=HC8.out _ h 3 (by omega); rw [← HX3.out] at h; exact h,by have h:=HC8.out _ h 7 (by omega); rw [← HX7.out] at h; exact h⟩)
 have hsc:=HSC.out _ hk5
 simp only at hsc

 refine wp_region_held_drew (S:=(fun w' => w'.cell? ⟨bw,1,none⟩ = some (.string ⟨x1.toArray⟩) ∧ w'.cell? ⟨bw,2,none⟩ = some (.string ⟨x2.toArray⟩) ∧ w'.cell? ⟨bw,3,none⟩ = some (.string ⟨x3.toArray⟩) ∧ w'.cell? ⟨bw,7,none⟩ = some (.string ⟨x7.toArray⟩))) (by kernel_rfl) (hsc) (fun hHeld => ?_)
 generalize w5.drew = X at *
 have HDB0 : Hid (∀ b,(Value.slice D ds.length cd).ownBlock = some b → b < X.heap.size):=Lib.hid (fun b hb => (hmo5.doors.lt b hb).2)
 (refine wpAnyH_take (i:=0) (v:=?_) (by (simp only [List.getElem?_toArray,List.getElem?_cons_zero]; rfl)) (by kernel_rfl) (by kernel_rfl) (by kernel_rfl) (by exact fun _ _ _ h => h) (Or.inl ⟨by rfl,?_⟩) (by assumption) ?_; (rotate_left 1; (intro w hSw; (try dsimp only at hSw); go_simp); (try with_reducible rfl)); (try simp only [Act.put,List.setIfInBounds_toArray,List.set_cons_zero,List.set_cons_succ]))
 (refine wpAnyH_take (i:=1) (v:=?_) (by (simp only [List.getElem?_toArray,List.getElem?_cons_succ,List.getElem?_cons_zero]; rfl)) (by kernel_rfl) (by kernel_rfl) (by kernel_rfl) (by exact fun _ _ _ h => h) (Or.inl ⟨by rfl,?_⟩) (by assumption) ?_; (rotate_left 1; (intro w hSw; (try dsimp only at hSw); go_simp); (try with_reducible rfl)); (try simp only [Act.put,List.setIfInBounds_toArray,List.set_cons_zero,List.set_cons_succ]))
 (refine wpAnyH_take (i:=2) (v:=?_) (by (simp only [List.getElem?_toArray,List.getElem?_cons_succ,List.getElem?_cons_zero]; rfl)) (by kernel_rfl) (by kernel_rfl) (by kernel_rfl) (by exact fun _ _ _ h => h) (Or.inl ⟨by rfl,?_⟩) (by assumption) ?_; (rotate_left 1; (intro w hSw; (try dsimp only at hSw); go_simp); (try with_reducible rfl)); (try simp only [Act.put,List.setIfInBounds_toArray,List.set_cons_zero,List.set_cons_succ]))
 (refine wpAnyH_take (i:=3) (v:=?_) (by (simp only [List.getElem?_toArray,List.getElem?_cons_succ,List.getElem?_cons_zero]; rfl)) (by kernel_rfl) (by kernel_rfl) (by kernel_rfl) (by exact fun _ _ _ h => h) (Or.inl ⟨by rfl,?_⟩) (by assumption) ?_; (rotate_left 1; (intro w hSw; (try dsimp only at hSw); go_simp); (try with_reducible rfl)); (try simp only [Act.put,List.setIfInBounds_toArray,List.set_cons_zero,List.set_cons_succ]))
 (refine wpAnyH_take (i:=4) (v:=?_) (by (simp only [List.getElem?_toArray,List.getElem?_cons_succ,List.getElem?_cons_zero]; rfl)) (by kernel_rfl) (by kernel_rfl) (by kernel_rfl) (by exact fun _ _ _ h => h) (Or.inl ⟨by rfl,?_⟩) (by assumption) ?_; (rotate_left 1; (intro w hSw; (try dsimp only at hSw); go_simp); (try with_reducible rfl)); (try simp only [Act.put,List.setIfInBounds_toArray,List.set_cons_zero,List.set_cons_succ]))
 (refine wpAnyH_take (i:=5) (v:=?_) (by (simp only [List.getElem?_toArray,List.getElem?_cons_succ,List.getElem?_cons_zero]; rfl)) (by kernel_rfl) (by kernel_rfl) (by kernel_rfl) (by exact fun _ _ _ h => h) (Or.inl ⟨by rfl,?_⟩) (by assumption) ?_; (rotate_left 1; (intro w hSw; (try dsimp only at hSw); go_simp); (try with_reducible rfl)); (try simp only [Act.put,List.setIfInBounds_toArray,List.set_cons_zero,List.set_cons_succ]))
 (refine wpAnyH_take (i:=6) (v:=?_) (by (simp only [List.getElem?_toArray,List.getElem?_cons_succ,List.getElem?_cons_zero]; rfl)) (by kernel_rfl) (by kernel_rfl) (by kernel_rfl) (by exact fun _ _ _ h => h) (Or.inl ⟨by rfl,?_⟩) (by assumption) ?_; (rotate_left 1; (intro w hSw; (try dsimp only at hSw); go_simp); (try with_reducible rfl)); (try simp only [Act.put,List.setIfInBounds_toArray,List.set_cons_zero,List.set_cons_succ]))
 (refine wpAnyH_take (i:=7) (v:=?_) (by (simp only [List.getElem?_toArray,List.getElem?_cons_succ,List.getElem?_cons_zero]; rfl)) (by kernel_rfl) (by kernel_rfl) (by kernel_rfl) (by exact fun _ _ _ h => h) (Or.inl ⟨by rfl,?_⟩) (by assumption) ?_; (rotate_left 1; (intro w hSw; (try dsimp only at hSw); go_simp); (try with_reducible rfl)); (try simp only [Act.put,List.setIfInBounds_toArray,List.set_cons_zero,List.set_cons_succ]))
 (refine wpAnyH_take (i:=8) (v:=?_) (by (simp only [List.getElem?_toArray,List.getElem?_cons_succ,List.getElem?_cons_zero]; rfl)) (by kernel_rfl) (by kernel_rfl) (by kernel_rfl) (by exact fun _ _ _ h => h) (Or.inl ⟨by rfl,?_⟩) (by assumption) ?_; (rotate_left 1; (intro w hSw; (try dsimp only at hSw); go_simp); (try with_reducible rfl)); (try simp only [Act.put,List.setIfInBounds_toArray,List.set_cons_zero,List.set_cons_succ]))
 (refine wpAnyH_take (i:=9) (v:=?_) (by (simp only [List.getElem?_toArray,List.getElem?_cons_succ,List.getElem?_cons_zero]; rfl)) (by kernel_rfl) (by kernel_rfl) (by kernel_rfl) (by exact fun _ _ _ h => h) (Or.inl ⟨by rfl,?_⟩) (by assumption) ?_; (rotate_left 1; (intro w hSw; (try dsimp only at hSw); go_simp); (try with_reducible rfl)); (try simp only [Act.put,List.setIfInBounds_toArray,List.set_cons_zero,List.set_cons_succ]))
 (refine wpAnyH_take (i:=10) (v:=?_) (by (simp only [List.getElem?_toArray,List.getElem?_cons_succ,List.getElem?_cons_zero]; rfl)) (by kernel_rfl) (by kernel_rfl) (by kernel_rfl) (by exact fun _ _ _ h => h) (Or.inl ⟨by rfl,?_⟩) (by assumption) ?_; (rotate_left 1; (intro w hSw; (try dsimp only at hSw); go_simp); (try with_reducible rfl)); (try simp only [Act.put,List.setIfInBounds_toArray,List.set_cons_zero,List.set_cons_succ]))
 (refine wpAnyH_take (i:=11) (v:=?_) (by (simp only [List.getElem?_toArray,List.getElem?_cons_succ,List.getElem?_cons_zero]; rfl)) (by kernel_rfl) (by kernel_rfl) (by kernel_rfl) (by exact fun _ _ _ h => h) (Or.inl ⟨by rfl,?_⟩) (by assumption) ?_; (rotate_left 1; (intro w hSw; (try dsimp only at hSw); go_simp); (try with_reducible rfl)); (try simp only [Act.put,List.setIfInBounds_toArray,List.set_cons_zero,List.set_cons_succ]))
 (refine wpAnyH_take (i:=12) (v:=?_) (by (simp only [List.getElem?_toArray,List.getElem?_cons_succ,List.getElem?_cons_zero]; rfl)) (by kernel_rfl) (by kernel_rfl) (by kernel_rfl) (by exact fun _ _ _ h => h) (Or.inl ⟨by rfl,?_⟩) (by assumption) ?_; (rotate_left 1; (intro w hSw; (try dsimp only at hSw); go_simp); (try with_reducible rfl)); (try simp only [Act.put,List.setIfInBounds_toArray,List.set_cons_zero,List.set_cons_succ]))
 (refine wpAnyH_take (i:=13) (v:=?_) (by (simp only [List.getElem?_toArray,List.getElem?_cons_succ,List.getElem?_cons_zero]; rfl)) (by kernel_rfl) (by kernel_rfl) (by kernel_rfl) (by exact fun _ _ _ h => h) (Or.inl ⟨by rfl,?_⟩) (by assumption) ?_; (rotate_left 1; (intro w hSw; (try dsimp only at hSw); go_simp); (try with_reducible rfl)); (try simp only [Act.put,List.setIfInBounds_toArray,List.set_cons_zero,List.set_cons_succ]))
 (refine wpAnyH_take (i:=14) (v:=?_) (by (simp only [List.getElem?_toArray,List.getElem?_cons_succ,List.getElem?_cons_zero]; rfl)) (by kernel_rfl) (by kernel_rfl) (by kernel_rfl) (by exact fun _ _ _ h => h) (Or.inl ⟨by rfl,?_⟩) (by assumption) ?_; (rotate_left 1; (intro w hSw; (try dsimp only at hSw); go_simp); (try with_reducible rfl)); (try simp only [Act.put,List.setIfInBounds_toArray,List.set_cons_zero,List.set_cons_succ]))
 (refine wpAnyH_take (i:=15) (v:=?_) (by (simp only [List.getElem?_toArray,List.getElem?_cons_succ,List.getElem?_cons_zero]; rfl)) (by kernel_rfl) (by kernel_rfl) (by kernel_rfl) (by exact fun _ _ _ h => h) (Or.inl ⟨by rfl,?_⟩) (by assumption) ?_; (rotate_left 1; (intro w hSw; (try dsimp only at hSw); go_simp); (try with_reducible rfl)); (try simp only [Act.put,List.setIfInBounds_toArray,List.set_cons_zero,List.set_cons_succ]))
 refine wpAnyH_ready (rs:=[16]) (by kernel_rfl) (by simp) ?_
 refine AllReadyH.cons rfl (fun K hK => ?_) AllReadyH.nil
 go_simp
 have hsc:=HSC.out _ (hk5.alloc (.cells #[.string ⟨#[]⟩,.string ⟨#[]⟩,.string ⟨#[]⟩,.int .i64 0,.slice none 0 0,.slice none 0 0,.string ⟨#[]⟩] 66))
 simp only at hsc
 refine hK.out _ _ (hsc) (fun hHeld => ?_)
 clear hK K
 (try simp only [Act.put,List.setIfInBounds_toArray,List.set_cons_zero,List.set_cons_succ])
 refine wpAnyH_ready (rs:=[17]) (by kernel_rfl) (by simp) ?_
 refine AllReadyH.cons rfl (fun K hK => ?_) AllReadyH.nil
 go_simp
 have hsc:=HSC.out _ (hk5.alloc (.cells #[.string ⟨x1.toArray⟩,.string ⟨x2.toArray⟩,.string ⟨x3.toArray⟩,.int .i64 nv,.slice A7 l7.length c7,.slice A8 l8.length c8,.string ⟨x7.toArray⟩] 66))
 simp only at hsc
 refine hK.out _ _ (hsc) (fun hHeld => ?_)
 clear hK K
 (try simp only [Act.put,List.setIfInBounds_toArray,List.set_cons_zero,List.set_cons_succ])
 refine wpAnyH_done (by kernel_rfl) ?_ _
 have hdb : Blk (X.alloc (.cells #[.string ⟨x1.toArray⟩,.string ⟨x2.toArray⟩,.string ⟨x3.toArray⟩,.int .i64 nv,.slice A7 l7.length c7,.slice A8 l8.length c8,.string ⟨x7.toArray⟩] 66)) X.heap.size 66 #[.string ⟨x1.toArray⟩,.string ⟨x2.toArray⟩,.string ⟨x3.toArray⟩,.int .i64 nv,.slice A7 l7.length c7,.slice A8 l8.length c8,.string ⟨x7.toArray⟩]:=Blk.new _ _ _
 replace hst5:=hst5.alloc hz5 (.cells #[.string ⟨x1.toArray⟩,.string ⟨x2.toArray⟩,.string ⟨x3.toArray⟩,.int .i64 nv,.slice A7 l7.length c7,.slice A8 l8.length c8,.string ⟨x7.toArray⟩] 66)
 replace hbx5:=hbx5.alloc (.cells #[.string ⟨x1.toArray⟩,.string ⟨x2.toArray⟩,.string ⟨x3.toArray⟩,.int .i64 nv,.slice A7 l7.length c7,.slice A8 l8.length c8,.string ⟨x7.toArray⟩] 66)
 replace hmo5:=hmo5.alloc (.cells #[.string ⟨x1.toArray⟩,.string ⟨x2.toArray⟩,.string ⟨x3.toArray⟩,.int .i64 nv,.slice A7 l7.length c7,.slice A8 l8.length c8,.string ⟨x7.toArray⟩] 66)
 replace hlo7 : LstO (X.alloc (.cells #[.string ⟨x1.toArray⟩,.string ⟨x2.toArray⟩,.string ⟨x3.toArray⟩,.int .i64 nv,.slice A7 l7.length c7,.slice A8 l8.length c8,.string ⟨x7.toArray⟩] 66)) L (A7,l7,c7):=hlo7.alloc _
 replace hlo8 : LstO (X.alloc (.cells #[.string ⟨x1.toArray⟩,.string ⟨x2.toArray⟩,.string ⟨x3.toArray⟩,.int .i64 nv,.slice A7 l7.length c7,.slice A8 l8.length c8,.string ⟨x7.toArray⟩] 66)) L (A8,l8,c8):=hlo8.alloc _
 have HDO : Hid (∀ b,(Value.slice D ds.length cd).ownBlock = some b → b ≠ X.heap.size):=Lib.hid (fun b hb => by have h2:=HDB0.out b hb; omega)
 have hz6 : L ≤ (X.alloc (.cells #[.string ⟨x1.toArray⟩,.string ⟨x2.toArray⟩,.string ⟨x3.toArray⟩,.int .i64 nv,.slice A7 l7.length c7,.slice A8 l8.length c8,.string ⟨x7.toArray⟩] 66)).heap.size:=by simp; omega
 clear hsc hHeld hk5
 have hdne : b2 ≠ X.heap.size:=by omega
 have hdL : L ≤ X.heap.size:=hz5
 generalize X.alloc (.cells #[.string ⟨x1.toArray⟩,.string ⟨x2.toArray⟩,.string ⟨x3.toArray⟩,.int .i64 nv,.slice A7 l7.length c7,.slice A8 l8.length c8,.string ⟨x7.toArray⟩] 66) = Y at *
 generalize X.heap.size = db at *
 by_cases h7 : x7 = [45]
 ·have HT7 : Hid (([] : List UInt8) = if x7 = [45] then [] else x7):=Lib.hid (by rw [if_pos h7])
  have d7 : (x7 == [45]) = true:=beq_iff_eq.2 h7
  clear h7
  have k6:=hdb.w7.2.2.2.2.2.2
  have f6:=hdb.thaw 6
  have zd:=hdb.lt
  have hdb7 : Blk (Y.setCell ⟨db,6,none⟩ (.string ⟨#[]⟩)) db 66 #[.string ⟨x1.toArray⟩,.string ⟨x2.toArray⟩,.string ⟨x3.toArray⟩,.int .i64 nv,.slice A7 l7.length c7,.slice A8 l8.length c8,.string ⟨#[]⟩]:=by simpa using hdb.poke 6 (.string ⟨#[]⟩)
  have hst7:=hst5.set (p:=⟨db,6,none⟩) (.inr hdL) (.string ⟨#[]⟩)
  have hbx7:=hbx5.past db 6 (.string ⟨#[]⟩) hdne
  have hmo7:=hmo5.setDb hdb HDO.out 6 (.string ⟨#[]⟩)
  have hlo77 : LstO (Y.setCell ⟨db,6,none⟩ (.string ⟨#[]⟩)) L (A7,l7,c7):=own_past hlo7 hdb (by decide) 6 _
  have hlo87 : LstO (Y.setCell ⟨db,6,none⟩ (.string ⟨#[]⟩)) L (A8,l8,c8):=own_past hlo8 hdb (by decide) 6 _
  have hz7 : L ≤ (Y.setCell ⟨db,6,none⟩ (.string ⟨#[]⟩)).heap.size:=by simpa [World.setCell] using hz6
  clear hdb hst5 hbx5 hmo5 hlo7 hlo8 hz6
  go_upto_region 18 with (fail)
  generalize Y.setCell ⟨db,6,none⟩ (.string ⟨#[]⟩) = Z at *
  clear k6 f6 zd
  have hbz : Below Z.heap.size Z Z.drew:=below_drewN' (Below.refl _ _) 1
  replace hst7:=hst7.trans (Stays.of_below (bs:=[b2]) hbz hz7)
  replace hz7 : L ≤ Z.drew.heap.size:=Nat.le_trans hz7 hbz.size
  replace hbx7:=hbx7.below hbz
  replace hmo7:=hmo7.below hbz
  replace hdb7:=hdb7.below hbz
  replace hlo77 : LstO Z.drew L (A7,l7,c7):=own_keep hlo77 hbz
  replace hlo87 : LstO Z.drew L (A8,l8,c8):=own_keep hlo87 hbz
  clear hbz
  refine wp_region_held_drew (S:=(fun _ => True)) (by kernel_rfl) (trivial) (fun hHeld => ?_)
  generalize Z.drew = X at *
  obtain ⟨m0,m1,m2,m3⟩ : _ ∧ _ ∧ _ ∧ _:=⟨hbx7.cell 0,hbx7.cell 1,hbx7.cell 2,hbx7.cell 3⟩
  simp only [List.getElem?_toArray,List.getElem?_cons_zero,List.getElem?_cons_succ] at m0 m1 m2 m3
  have zb:=hbx7.lt
  (refine wpAnyH_take (i:=0) (v:=?_) (by (simp only [List.getElem?_toArray,List.getElem?_cons_zero]; rfl)) (by kernel_rfl) (by kernel_rfl) (by kernel_rfl) (by exact fun _ _ _ h => h) (Or.inl ⟨by rfl,?_⟩) (by assumption) ?_; (rotate_left 1; (intro w hSw; (try dsimp only at hSw); go_simp); (try with_reducible rfl)); (try simp only [Act.put,List.setIfInBounds_toArray,List.set_cons_zero,List.set_cons_succ]))
  (refine wpAnyH_take (i:=1) (v:=?_) (by (simp only [List.getElem?_toArray,List.getElem?_cons_succ,List.getElem?_cons_zero]; rfl)) (by kernel_rfl) (by kernel_rfl) (by kernel_rfl) (by exact fun _ _ _ h => h) (Or.inl ⟨by rfl,?_⟩) (by assumption) ?_; (rotate_left 1; (intro w hSw; (try dsimp only at hSw); go_simp); (try with_reducible rfl)); (try simp only [Act.put,List.setIfInBounds_toArray,List.set_cons_zero,List.set_cons_succ]))
  refine wpAnyH_ready (rs:=[2,5]) (by kernel_rfl) (by simp) ?_
  refine AllReadyH.cons rfl (fun K hK => ?_) (AllReadyH.cons rfl (fun K hK => ?_) AllReadyH.nil)
  case refine_1 =>
   go_simp
   refine hK.out _ _ (trivial) (fun hHeld => ?_)
   clear hK K
   (try simp only [Act.put,List.setIfInBounds_toArray,List.set_cons_zero,List.set_cons_succ])
   (refine wpAnyH_take (i:=3) (v:=?_) (by (simp only [List.getElem?_toArray,List.getElem?_cons_succ,List.getElem?_cons_zero]; rfl)) (by kernel_rfl) (by kernel_rfl) (by kernel_rfl) (by exact fun _ _ _ h => h) (Or.inl ⟨by rfl,?_⟩) (by assumption) ?_; (rotate_left 1; (intro w hSw; (try dsimp only at hSw); go_simp); (try with_reducible rfl)); (try simp only [Act.put,List.setIfInBounds_toArray,List.set_cons_zero,List.set_cons_succ]))
   refine wpAnyH_ready (rs:=[4,5]) (by kernel_rfl) (by simp) ?_
   refine AllReadyH.cons rfl (fun K hK => ?_) (AllReadyH.cons rfl (fun K hK => ?_) AllReadyH.nil)
   case refine_1 =>
    go_simp
    refine hK.out _ _ (trivial) (fun hHeld => ?_)
    clear hK K
    (try simp only [Act.put,List.setIfInBounds_toArray,List.set_cons_zero,List.set_cons_succ])
    refine wpAnyH_ready (rs:=[5]) (by kernel_rfl) (by simp) ?_
    refine AllReadyH.cons rfl (fun K hK => ?_) AllReadyH.nil
    obtain ⟨k0,k1,k2,k3,k4,k5,k6⟩:=hdb7.w7
    have zd:=hdb7.lt
    go_simp
    clear k0 k1 k2 k3 k4 k5 k6 zd
    refine hK.out _ _ (trivial) (fun hHeld => ?_)
    clear hK K
    (try simp only [Act.put,List.setIfInBounds_toArray,List.set_cons_zero,List.set_cons_succ])
    refine wpAnyH_ready (rs:=[6]) (by kernel_rfl) (by simp) ?_
    refine AllReadyH.cons rfl (fun K hK => ?_) AllReadyH.nil
    go_simp
    have hnb : Blk (X.alloc (.cells #[.string ⟨x1.toArray⟩,.string ⟨x2.toArray⟩,.string ⟨x3.toArray⟩,.int .i64 nv,.slice A7 l7.length c7,.slice A8 l8.length c8,.string ⟨#[]⟩] 66)) X.heap.size 66 #[.string ⟨x1.toArray⟩,.string ⟨x2.toArray⟩,.string ⟨x3.toArray⟩,.int .i64 nv,.slice A7 l7.length c7,.slice A8 l8.length c8,.string ⟨#[]⟩]:=Blk.new _ _ _
    replace hst7:=hst7.alloc hz7 (.cells #[.string ⟨x1.toArray⟩,.string ⟨x2.toArray⟩,.string ⟨x3.toArray⟩,.int .i64 nv,.slice A7 l7.length c7,.slice A8 l8.length c8,.string ⟨#[]⟩] 66)
    replace hbx7:=hbx7.alloc (.cells #[.string ⟨x1.toArray⟩,.string ⟨x2.toArray⟩,.string ⟨x3.toArray⟩,.int .i64 nv,.slice A7 l7.length c7,.slice A8 l8.length c8,.string ⟨#[]⟩] 66)
    replace hmo7:=hmo7.alloc (.cells #[.string ⟨x1.toArray⟩,.string ⟨x2.toArray⟩,.string ⟨x3.toArray⟩,.int .i64 nv,.slice A7 l7.length c7,.slice A8 l8.length c8,.string ⟨#[]⟩] 66)
    replace hlo77 : LstO (X.alloc (.cells #[.string ⟨x1.toArray⟩,.string ⟨x2.toArray⟩,.string ⟨x3.toArray⟩,.int .i64 nv,.slice A7 l7.length c7,.slice A8 l8.length c8,.string ⟨#[]⟩] 66)) L (A7,l7,c7):=hlo77.alloc _
    replace hlo87 : LstO (X.alloc (.cells #[.string ⟨x1.toArray⟩,.string ⟨x2.toArray⟩,.string ⟨x3.toArray⟩,.int .i64 nv,.slice A7 l7.length c7,.slice A8 l8.length c8,.string ⟨#[]⟩] 66)) L (A8,l8,c8):=hlo87.alloc _
    have hz8 : L ≤ (X.alloc (.cells #[.string ⟨x1.toArray⟩,.string ⟨x2.toArray⟩,.string ⟨x3.toArray⟩,.int .i64 nv,.slice A7 l7.length c7,.slice A8 l8.length c8,.string ⟨#[]⟩] 66)).heap.size:=by simp; omega
    clear m0 m1 m2 m3 zb
    obtain ⟨m0,m1,m2,m3⟩ : _ ∧ _ ∧ _ ∧ _:=⟨hbx7.cell 0,hbx7.cell 1,hbx7.cell 2,hbx7.cell 3⟩
    simp only [List.getElem?_toArray,List.getElem?_cons_zero,List.getElem?_cons_succ] at m0 m1 m2 m3
    have zb:=hbx7.lt
    refine hK.out _ _ (trivial) (fun hHeld => ?_)
    clear hK K
    (try simp only [Act.put,List.setIfInBounds_toArray,List.set_cons_zero,List.set_cons_succ])
    refine wpAnyH_ready (rs:=[7]) (by kernel_rfl) (by simp) ?_
    refine AllReadyH.cons rfl (fun K hK => ?_) AllReadyH.nil
    refine step_app (lo:=L) (base:=L) (n:=ds.length) (xs:=ds.flatMap encD) _ rfl _ _ ty_doorm rfl hmo7.doors rfl (Row.lit hnb (Nat.le_trans hz7 (Nat.le_refl _)) rfl : Row _ L 7 _ 1 _) rfl rfl (by omega) (by omega) hz8 ?_
    intro A9 c9 w8 hown8 hg8 _
    have hown8' : w8.ownsRow L 66 7 (.slice A9 (ds.length + 1) c9) (ds.length + 1) (ds.flatMap encD ++ [.string ⟨x1.toArray⟩,.string ⟨x2.toArray⟩,.string ⟨x3.toArray⟩,.int .i64 nv,.slice A7 l7.length c7,.slice A8 l8.length c8,.string ⟨(([] : List UInt8)).toArray⟩]):=hown8
    have HPU : Hid ((nb && u5 && u6) = true → MpA t b2 L (k + 1) (w8.setCell ⟨b2,1,none⟩ (.slice A9 (ds.length + 1) c9))):=Lib.hid (fun hu => by
     rw [Bool.and_eq_true,Bool.and_eq_true] at hu
     exact MpA.pushD hb2 HR.out HX1.out.symm HX2.out.symm HX3.out.symm (HNV.out.trans (by rw [HX4.out])) ((HU5.out hu.1.2).trans (by rw [HX5.out])) ((HU6.out hu.2).trans (by rw [HX6.out])) HX7.out.symm HT7.out HST.out HGL.out hbx7 hmo7 HE1.out HE2.out hlo77 hlo87 hg8 hown8')
    have HS8:=Lib.hid ((hst7.grown hg8 hz8 (fun q hq => (hmo7.doors.lt q hq).1)).set (p:=⟨b2,1,none⟩) (.inl (by simp)) (.slice A9 (ds.length + 1) c9))
    have hbx8:=hbx7.otherOf hg8 (own_kindOf hmo7.doors) (by decide)
    clear m0 m1 m2 m3 zb hown8 hown8' hg8 hbx7 hmo7 hlo77 hlo87 hst7 hnb
    obtain ⟨m0,m1,m2,m3⟩ : _ ∧ _ ∧ _ ∧ _:=⟨hbx8.cell 0,hbx8.cell 1,hbx8.cell 2,hbx8.cell 3⟩
    simp only [List.getElem?_toArray,List.getElem?_cons_zero,List.getElem?_cons_succ] at m0 m1 m2 m3
    have zb:=hbx8.lt
    have f1:=hbx8.thaw 1
    refine hK.out _ _ (trivial) (fun hHeld => ?_)
    clear hK K
    (try simp only [Act.put,List.setIfInBounds_toArray,List.set_cons_zero,List.set_cons_succ])
    refine wpAnyH_ready (rs:=[8]) (by kernel_rfl) (by simp) ?_
    refine AllReadyH.cons rfl (fun K hK => ?_) AllReadyH.nil
    go_simp
    refine hK.out _ _ (trivial) (fun hHeld => ?_)
    clear hK K
    (try simp only [Act.put,List.setIfInBounds_toArray,List.set_cons_zero,List.set_cons_succ])
    (refine wpAnyH_take (i:=9) (v:=?_) (by (simp only [List.getElem?_toArray,List.getElem?_cons_succ,List.getElem?_cons_zero]; rfl)) (by kernel_rfl) (by kernel_rfl) (by kernel_rfl) (by exact fun _ _ _ h => h) (Or.inl ⟨by rfl,?_⟩) (by assumption) ?_; (rotate_left 1; (intro w hSw; (try dsimp only at hSw); go_simp); (try with_reducible rfl)); (try simp only [Act.put,List.setIfInBounds_toArray,List.set_cons_zero,List.set_cons_succ]))
    refine wpAnyH_ready (rs:=[10]) (by kernel_rfl) (by simp) ?_
    refine AllReadyH.cons rfl (fun K hK => ?_) AllReadyH.nil
    go_simp
    clear m0 m1 m2 m3 zb f1
    refine hK.out _ _ (trivial) (fun hHeld => ?_)
    clear hK K
    (try simp only [Act.put,List.setIfInBounds_toArray,List.set_cons_zero,List.set_cons_succ])
    refine wpAnyH_done (by kernel_rfl) ?_ _
    cases nb with
    | false =>
     go_wp2_with fail
     exact GOOD.out _ _ HS8.out HOK.out HPU.out
    | true =>
     cases u5 with
     | false =>
      go_wp2_with fail
      exact GOOD.out _ _ HS8.out HOK.out HPU.out
     | true =>
      go_wp2_with fail
      exact GOOD.out _ _ HS8.out (by rw [HOK.out]; rfl) HPU.out
   case refine_2 =>
    obtain ⟨k0,k1,k2,k3,k4,k5,k6⟩:=hdb7.w7
    have zd:=hdb7.lt
    go_simp
    clear k0 k1 k2 k3 k4 k5 k6 zd
    refine hK.out _ _ (trivial) (fun hHeld => ?_)
    clear hK K
    (try simp only [Act.put,List.setIfInBounds_toArray,List.set_cons_zero,List.set_cons_succ])
    refine wpAnyH_ready (rs:=[4,6]) (by kernel_rfl) (by simp) ?_
    refine AllReadyH.cons rfl (fun K hK => ?_) (AllReadyH.cons rfl (fun K hK => ?_) AllReadyH.nil)
    case refine_1 =>
     go_simp
     refine hK.out _ _ (trivial) (fun hHeld => ?_)
     clear hK K
     (try simp only [Act.put,List.setIfInBounds_toArray,List.set_cons_zero,List.set_cons_succ])
     refine wpAnyH_ready (rs:=[6]) (by kernel_rfl) (by simp) ?_
     refine AllReadyH.cons rfl (fun K hK => ?_) AllReadyH.nil
     go_simp
     have hnb : Blk (X.alloc (.cells #[.string ⟨x1.toArray⟩,.string ⟨x2.toArray⟩,.string ⟨x3.toArray⟩,.int .i64 nv,.slice A7 l7.length c7,.slice A8 l8.length c8,.string ⟨#[]⟩] 66)) X.heap.size 66 #[.string ⟨x1.toArray⟩,.string ⟨x2.toArray⟩,.string ⟨x3.toArray⟩,.int .i64 nv,.slice A7 l7.length c7,.slice A8 l8.length c8,.string ⟨#[]⟩]:=Blk.new _ _ _
     replace hst7:=hst7.alloc hz7 (.cells #[.string ⟨x1.toArray⟩,.string ⟨x2.toArray⟩,.string ⟨x3.toArray⟩,.int .i64 nv,.slice A7 l7.length c7,.slice A8 l8.length c8,.string ⟨#[]⟩] 66)
     replace hbx7:=hbx7.alloc (.cells #[.string ⟨x1.toArray⟩,.string ⟨x2.toArray⟩,.string ⟨x3.toArray⟩,.int .i64 nv,.slice A7 l7.length c7,.slice A8 l8.length c8,.string ⟨#[]⟩] 66)
     replace hmo7:=hmo7.alloc (.cells #[.string ⟨x1.toArray⟩,.string ⟨x2.toArray⟩,.string ⟨x3.toArray⟩,.int .i64 nv,.slice A7 l7.length c7,.slice A8 l8.length c8,.string ⟨#[]⟩] 66)
     replace hlo77 : LstO (X.alloc (.cells #[.string ⟨x1.toArray⟩,.string ⟨x2.toArray⟩,.string ⟨x3.toArray⟩,.int .i64 nv,.slice A7 l7.length c7,.slice A8 l8.length c8,.string ⟨#[]⟩] 66)) L (A7,l7,c7):=hlo77.alloc _
     replace hlo87 : LstO (X.alloc (.cells #[.string ⟨x1.toArray⟩,.string ⟨x2.toArray⟩,.string ⟨x3.toArray⟩,.int .i64 nv,.slice A7 l7.length c7,.slice A8 l8.length c8,.string ⟨#[]⟩] 66)) L (A8,l8,c8):=hlo87.alloc _
     have hz8 : L ≤ (X.alloc (.cells #[.string ⟨x1.toArray⟩,.string ⟨x2.toArray⟩,.string ⟨x3.toArray⟩,.int .i64 nv,.slice A7 l7.length c7,.slice A8 l8.length c8,.string ⟨#[]⟩] 66)).heap.size:=by simp; omega
     clear m0 m1 m2 m3 zb
     obtain ⟨m0,m1,m2,m3⟩ : _ ∧ _ ∧ _ ∧ _:=⟨hbx7.cell 0,hbx7.cell 1,hbx7.cell 2,hbx7.cell 3⟩
     simp only [List.getElem?_toArray,List.getElem?_cons_zero,List.getElem?_cons_succ] at m0 m1 m2 m3
     have zb:=hbx7.lt
     refine hK.out _ _ (trivial) (fun hHeld => ?_)
     clear hK K
     (try simp only [Act.put,List.setIfInBounds_toArray,List.set_cons_zero,List.set_cons_succ])
     refine wpAnyH_ready (rs:=[7]) (by kernel_rfl) (by simp) ?_
     refine AllReadyH.cons rfl (fun K hK => ?_) AllReadyH.nil
     refine step_app (lo:=L) (base:=L) (n:=ds.length) (xs:=ds.flatMap encD) _ rfl _ _ ty_doorm rfl hmo7.doors rfl (Row.lit hnb (Nat.le_trans hz7 (Nat.le_refl _)) rfl : Row _ L 7 _ 1 _) rfl rfl (by omega) (by omega) hz8 ?_
     intro A9 c9 w8 hown8 hg8 _
     have hown8' : w8.ownsRow L 66 7 (.slice A9 (ds.length + 1) c9) (ds.length + 1) (ds.flatMap encD ++ [.string ⟨x1.toArray⟩,.string ⟨x2.toArray⟩,.string ⟨x3.toArray⟩,.int .i64 nv,.slice A7 l7.length c7,.slice A8 l8.length c8,.string ⟨(([] : List UInt8)).toArray⟩]):=hown8
     have HPU : Hid ((nb && u5 && u6) = true → MpA t b2 L (k + 1) (w8.setCell ⟨b2,1,none⟩ (.slice A9 (ds.length + 1) c9))):=Lib.hid (fun hu => by
      rw [Bool.and_eq_true,Bool.and_eq_true] at hu
      exact MpA.pushD hb2 HR.out HX1.out.symm HX2.out.symm HX3.out.symm (HNV.out.trans (by rw [HX4.out])) ((HU5.out hu.1.2).trans (by rw [HX5.out])) ((HU6.out hu.2).trans (by rw [HX6.out])) HX7.out.symm HT7.out HST.out HGL.out hbx7 hmo7 HE1.out HE2.out hlo77 hlo87 hg8 hown8')
     have HS8:=Lib.hid ((hst7.grown hg8 hz8 (fun q hq => (hmo7.doors.lt q hq).1)).set (p:=⟨b2,1,none⟩) (.inl (by simp)) (.slice A9 (ds.length + 1) c9))
     have hbx8:=hbx7.otherOf hg8 (own_kindOf hmo7.doors) (by decide)
     clear m0 m1 m2 m3 zb hown8 hown8' hg8 hbx7 hmo7 hlo77 hlo87 hst7 hnb
     obtain ⟨m0,m1,m2,m3⟩ : _ ∧ _ ∧ _ ∧ _:=⟨hbx8.cell 0,hbx8.cell 1,hbx8.cell 2,hbx8.cell 3⟩
     simp only [List.getElem?_toArray,List.getElem?_cons_zero,List.getElem?_cons_succ] at m0 m1 m2 m3
     have zb:=hbx8.lt
     have f1:=hbx8.thaw 1
     refine hK.out _ _ (trivial) (fun hHeld => ?_)
     clear hK K
     (try simp only [Act.put,List.setIfInBounds_toArray,List.set_cons_zero,List.set_cons_succ])
     refine wpAnyH_ready (rs:=[8]) (by kernel_rfl) (by simp) ?_
     refine AllReadyH.cons rfl (fun K hK => ?_) AllReadyH.nil
     go_simp
     refine hK.out _ _ (trivial) (fun hHeld => ?_)
     clear hK K
     (try simp only [Act.put,List.setIfInBounds_toArray,List.set_cons_zero,List.set_cons_succ])
     (refine wpAnyH_take (i:=9) (v:=?_) (by (simp only [List.getElem?_toArray,List.getElem?_cons_succ,List.getElem?_cons_zero]; rfl)) (by kernel_rfl) (by kernel_rfl) (by kernel_rfl) (by exact fun _ _ _ h => h) (Or.inl ⟨by rfl,?_⟩) (by assumption) ?_; (rotate_left 1; (intro w hSw; (try dsimp only at hSw); go_simp); (try with_reducible rfl)); (try simp only [Act.put,List.setIfInBounds_toArray,List.set_cons_zero,List.set_cons_succ]))
     refine wpAnyH_ready (rs:=[10]) (by kernel_rfl) (by simp) ?_
     refine AllReadyH.cons rfl (fun K hK => ?_) AllReadyH.nil
     go_simp
     clear m0 m1 m2 m3 zb f1
     refine hK.out _ _ (trivial) (fun hHeld => ?_)
     clear hK K
     (try simp only [Act.put,List.setIfInBounds_toArray,List.set_cons_zero,List.set_cons_succ])
     refine wpAnyH_done (by kernel_rfl) ?_ _
     cases nb with
     | false =>
      go_wp2_with fail
      exact GOOD.out _ _ HS8.out HOK.out HPU.out
     | true =>
      cases u5 with
      | false =>
       go_wp2_with fail
       exact GOOD.out _ _ HS8.out HOK.out HPU.out
      | true =>
       go_wp2_with fail
       exact GOOD.out _ _ HS8.out (by rw [HOK.out]; rfl) HPU.out
    case refine_2 =>
     go_simp
     have hnb : Blk (X.alloc (.cells #[.string ⟨x1.toArray⟩,.string ⟨x2.toArray⟩,.string ⟨x3.toArray⟩,.int .i64 nv,.slice A7 l7.length c7,.slice A8 l8.length c8,.string ⟨#[]⟩] 66)) X.heap.size 66 #[.string ⟨x1.toArray⟩,.string ⟨x2.toArray⟩,.string ⟨x3.toArray⟩,.int .i64 nv,.slice A7 l7.length c7,.slice A8 l8.length c8,.string ⟨#[]⟩]:=Blk.new _ _ _
     replace hst7:=hst7.alloc hz7 (.cells #[.string ⟨x1.toArray⟩,.string ⟨x2.toArray⟩,.string ⟨x3.toArray⟩,.int .i64 nv,.slice A7 l7.length c7,.slice A8 l8.length c8,.string ⟨#[]⟩] 66)
     replace hbx7:=hbx7.alloc (.cells #[.string ⟨x1.toArray⟩,.string ⟨x2.toArray⟩,.string ⟨x3.toArray⟩,.int .i64 nv,.slice A7 l7.length c7,.slice A8 l8.length c8,.string ⟨#[]⟩] 66)
     replace hmo7:=hmo7.alloc (.cells #[.string ⟨x1.toArray⟩,.string ⟨x2.toArray⟩,.string ⟨x3.toArray⟩,.int .i64 nv,.slice A7 l7.length c7,.slice A8 l8.length c8,.string ⟨#[]⟩] 66)
     replace hlo77 : LstO (X.alloc (.cells #[.string ⟨x1.toArray⟩,.string ⟨x2.toArray⟩,.string ⟨x3.toArray⟩,.int .i64 nv,.slice A7 l7.length c7,.slice A8 l8.length c8,.string ⟨#[]⟩] 66)) L (A7,l7,c7):=hlo77.alloc _
     replace hlo87 : LstO (X.alloc (.cells #[.string ⟨x1.toArray⟩,.string ⟨x2.toArray⟩,.string ⟨x3.toArray⟩,.int .i64 nv,.slice A7 l7.length c7,.slice A8 l8.length c8,.string ⟨#[]⟩] 66)) L (A8,l8,c8):=hlo87.alloc _
     have hz8 : L ≤ (X.alloc (.cells #[.string ⟨x1.toArray⟩,.string ⟨x2.toArray⟩,.string ⟨x3.toArray⟩,.int .i64 nv,.slice A7 l7.length c7,.slice A8 l8.length c8,.string ⟨#[]⟩] 66)).heap.size:=by simp; omega
     clear m0 m1 m2 m3 zb
     obtain ⟨m0,m1,m2,m3⟩ : _ ∧ _ ∧ _ ∧ _:=⟨hbx7.cell 0,hbx7.cell 1,hbx7.cell 2,hbx7.cell 3⟩
     simp only [List.getElem?_toArray,List.getElem?_cons_zero,List.getElem?_cons_succ] at m0 m1 m2 m3
     have zb:=hbx7.lt
     refine hK.out _ _ (trivial) (fun hHeld => ?_)
     clear hK K
     (try simp only [Act.put,List.setIfInBounds_toArray,List.set_cons_zero,List.set_cons_succ])
     refine wpAnyH_ready (rs:=[4]) (by kernel_rfl) (by simp) ?_
     refine AllReadyH.cons rfl (fun K hK => ?_) AllReadyH.nil
     go_simp
     refine hK.out _ _ (trivial) (fun hHeld => ?_)
     clear hK K
     (try simp only [Act.put,List.setIfInBounds_toArray,List.set_cons_zero,List.set_cons_succ])
     refine wpAnyH_ready (rs:=[7]) (by kernel_rfl) (by simp) ?_
     refine AllReadyH.cons rfl (fun K hK => ?_) AllReadyH.nil
     refine step_app (lo:=L) (base:=L) (n:=ds.length) (xs:=ds.flatMap encD) _ rfl _ _ ty_doorm rfl hmo7.doors rfl (Row.lit hnb (Nat.le_trans hz7 (Nat.le_refl _)) rfl : Row _ L 7 _ 1 _) rfl rfl (by omega) (by omega) hz8 ?_
     intro A9 c9 w8 hown8 hg8 _
     have hown8' : w8.ownsRow L 66 7 (.slice A9 (ds.length + 1) c9) (ds.length + 1) (ds.flatMap encD ++ [.string ⟨x1.toArray⟩,.string ⟨x2.toArray⟩,.string ⟨x3.toArray⟩,.int .i64 nv,.slice A7 l7.length c7,.slice A8 l8.length c8,.string ⟨(([] : List UInt8)).toArray⟩]):=hown8
     have HPU : Hid ((nb && u5 && u6) = true → MpA t b2 L (k + 1) (w8.setCell ⟨b2,1,none⟩ (.slice A9 (ds.length + 1) c9))):=Lib.hid (fun hu => by
      rw [Bool.and_eq_true,Bool.and_eq_true] at hu
      exact MpA.pushD hb2 HR.out HX1.out.symm HX2.out.symm HX3.out.symm (HNV.out.trans (by rw [HX4.out])) ((HU5.out hu.1.2).trans (by rw [HX5.out])) ((HU6.out hu.2).trans (by rw [HX6.out])) HX7.out.symm HT7.out HST.out HGL.out hbx7 hmo7 HE1.out HE2.out hlo77 hlo87 hg8 hown8')
     have HS8:=Lib.hid ((hst7.grown hg8 hz8 (fun q hq => (hmo7.doors.lt q hq).1)).set (p:=⟨b2,1,none⟩) (.inl (by simp)) (.slice A9 (ds.length + 1) c9))
     have hbx8:=hbx7.otherOf hg8 (own_kindOf hmo7.doors) (by decide)
     clear m0 m1 m2 m3 zb hown8 hown8' hg8 hbx7 hmo7 hlo77 hlo87 hst7 hnb
     obtain ⟨m0,m1,m2,m3⟩ : _ ∧ _ ∧ _ ∧ _:=⟨hbx8.cell 0,hbx8.cell 1,hbx8.cell 2,hbx8.cell 3⟩
     simp only [List.getElem?_toArray,List.getElem?_cons_zero,List.getElem?_cons_succ] at m0 m1 m2 m3
     have zb:=hbx8.lt
     have f1:=hbx8.thaw 1
     refine hK.out _ _ (trivial) (fun hHeld => ?_)
     clear hK K
     (try simp only [Act.put,List.setIfInBounds_toArray,List.set_cons_zero,List.set_cons_succ])
     refine wpAnyH_ready (rs:=[8]) (by kernel_rfl) (by simp) ?_
     refine AllReadyH.cons rfl (fun K hK => ?_) AllReadyH.nil
     go_simp
     refine hK.out _ _ (trivial) (fun hHeld => ?_)
     clear hK K
     (try simp only [Act.put,List.setIfInBounds_toArray,List.set_cons_zero,List.set_cons_succ])
     (refine wpAnyH_take (i:=9) (v:=?_) (by (simp only [List.getElem?_toArray,List.getElem?_cons_succ,List.getElem?_cons_zero]; rfl)) (by kernel_rfl) (by kernel_rfl) (by kernel_rfl) (by exact fun _ _ _ h => h) (Or.inl ⟨by rfl,?_⟩) (by assumption) ?_; (rotate_left 1; (intro w hSw; (try dsimp only at hSw); go_simp); (try with_reducible rfl)); (try simp only [Act.put,List.setIfInBounds_toArray,List.set_cons_zero,List.set_cons_succ]))
     refine wpAnyH_ready (rs:=[10]) (by kernel_rfl) (by simp) ?_
     refine AllReadyH.cons rfl (fun K hK => ?_) AllReadyH.nil
     go_simp
     clear m0 m1 m2 m3 zb f1
     refine hK.out _ _ (trivial) (fun hHeld => ?_)
     clear hK K
     (try simp only [Act.put,List.setIfInBounds_toArray,List.set_cons_zero,List.set_cons_succ])
     refine wpAnyH_done (by kernel_rfl) ?_ _
     cases nb with
     | false =>
      go_wp2_with fail
      exact GOOD.out _ _ HS8.out HOK.out HPU.out
     | true =>
      cases u5 with
      | false =>
       go_wp2_with fail
       exact GOOD.out _ _ HS8.out HOK.out HPU.out
      | true =>
       go_wp2_with fail
       exact GOOD.out _ _ HS8.out (by rw [HOK.out]; rfl) HPU.out
  case refine_2 =>
   obtain ⟨k0,k1,k2,k3,k4,k5,k6⟩:=hdb7.w7
   have zd:=hdb7.lt
   go_simp
   clear k0 k1 k2 k3 k4 k5 k6 zd
   refine hK.out _ _ (trivial) (fun hHeld => ?_)
   clear hK K
   (try simp only [Act.put,List.setIfInBounds_toArray,List.set_cons_zero,List.set_cons_succ])
   refine wpAnyH_ready (rs:=[2,6]) (by kernel_rfl) (by simp) ?_
   refine AllReadyH.cons rfl (fun K hK => ?_) (AllReadyH.cons rfl (fun K hK => ?_) AllReadyH.nil)
   case refine_1 =>
    go_simp
    refine hK.out _ _ (trivial) (fun hHeld => ?_)
    clear hK K
    (try simp only [Act.put,List.setIfInBounds_toArray,List.set_cons_zero,List.set_cons_succ])
    (refine wpAnyH_take (i:=3) (v:=?_) (by (simp only [List.getElem?_toArray,List.getElem?_cons_succ,List.getElem?_cons_zero]; rfl)) (by kernel_rfl) (by kernel_rfl) (by kernel_rfl) (by exact fun _ _ _ h => h) (Or.inl ⟨by rfl,?_⟩) (by assumption) ?_; (rotate_left 1; (intro w hSw; (try dsimp only at hSw); go_simp); (try with_reducible rfl)); (try simp only [Act.put,List.setIfInBounds_toArray,List.set_cons_zero,List.set_cons_succ]))
    refine wpAnyH_ready (rs:=[4,6]) (by kernel_rfl) (by simp) ?_
    refine AllReadyH.cons rfl (fun K hK => ?_) (AllReadyH.cons rfl (fun K hK => ?_) AllReadyH.nil)
    case refine_1 =>
     go_simp
     refine hK.out _ _ (trivial) (fun hHeld => ?_)
     clear hK K
     (try simp only [Act.put,List.setIfInBounds_toArray,List.set_cons_zero,List.set_cons_succ])
     refine wpAnyH_ready (rs:=[6]) (by kernel_rfl) (by simp) ?_
     refine AllReadyH.cons rfl (fun K hK => ?_) AllReadyH.nil
     go_simp
     have hnb : Blk (X.alloc (.cells #[.string ⟨x1.toArray⟩,.string ⟨x2.toArray⟩,.string ⟨x3.toArray⟩,.int .i64 nv,.slice A7 l7.length c7,.slice A8 l8.length c8,.string ⟨#[]⟩] 66)) X.heap.size 66 #[.string ⟨x1.toArray⟩,.string ⟨x2.toArray⟩,.string ⟨x3.toArray⟩,.int .i64 nv,.slice A7 l7.length c7,.slice A8 l8.length c8,.string ⟨#[]⟩]:=Blk.new _ _ _
     replace hst7:=hst7.alloc hz7 (.cells #[.string ⟨x1.toArray⟩,.string ⟨x2.toArray⟩,.string ⟨x3.toArray⟩,.int .i64 nv,.slice A7 l7.length c7,.slice A8 l8.length c8,.string ⟨#[]⟩] 66)
     replace hbx7:=hbx7.alloc (.cells #[.string ⟨x1.toArray⟩,.string ⟨x2.toArray⟩,.string ⟨x3.toArray⟩,.int .i64 nv,.slice A7 l7.length c7,.slice A8 l8.length c8,.string ⟨#[]⟩] 66)
     replace hmo7:=hmo7.alloc (.cells #[.string ⟨x1.toArray⟩,.string ⟨x2.toArray⟩,.string ⟨x3.toArray⟩,.int .i64 nv,.slice A7 l7.length c7,.slice A8 l8.length c8,.string ⟨#[]⟩] 66)
     replace hlo77 : LstO (X.alloc (.cells #[.string ⟨x1.toArray⟩,.string ⟨x2.toArray⟩,.string ⟨x3.toArray⟩,.int .i64 nv,.slice A7 l7.length c7,.slice A8 l8.length c8,.string ⟨#[]⟩] 66)) L (A7,l7,c7):=hlo77.alloc _
     replace hlo87 : LstO (X.alloc (.cells #[.string ⟨x1.toArray⟩,.string ⟨x2.toArray⟩,.string ⟨x3.toArray⟩,.int .i64 nv,.slice A7 l7.length c7,.slice A8 l8.length c8,.string ⟨#[]⟩] 66)) L (A8,l8,c8):=hlo87.alloc _
     have hz8 : L ≤ (X.alloc (.cells #[.string ⟨x1.toArray⟩,.string ⟨x2.toArray⟩,.string ⟨x3.toArray⟩,.int .i64 nv,.slice A7 l7.length c7,.slice A8 l8.length c8,.string ⟨#[]⟩] 66)).heap.size:=by simp; omega
     clear m0 m1 m2 m3 zb
     obtain ⟨m0,m1,m2,m3⟩ : _ ∧ _ ∧ _ ∧ _:=⟨hbx7.cell 0,hbx7.cell 1,hbx7.cell 2,hbx7.cell 3⟩
     simp only [List.getElem?_toArray,List.getElem?_cons_zero,List.getElem?_cons_succ] at m0 m1 m2 m3
     have zb:=hbx7.lt
     refine hK.out _ _ (trivial) (fun hHeld => ?_)
     clear hK K
     (try simp only [Act.put,List.setIfInBounds_toArray,List.set_cons_zero,List.set_cons_succ])
     refine wpAnyH_ready (rs:=[7]) (by kernel_rfl) (by simp) ?_
     refine AllReadyH.cons rfl (fun K hK => ?_) AllReadyH.nil
     refine step_app (lo:=L) (base:=L) (n:=ds.length) (xs:=ds.flatMap encD) _ rfl _ _ ty_doorm rfl hmo7.doors rfl (Row.lit hnb (Nat.le_trans hz7 (Nat.le_refl _)) rfl : Row _ L 7 _ 1 _) rfl rfl (by omega) (by omega) hz8 ?_
     intro A9 c9 w8 hown8 hg8 _
     have hown8' : w8.ownsRow L 66 7 (.slice A9 (ds.length + 1) c9) (ds.length + 1) (ds.flatMap encD ++ [.string ⟨x1.toArray⟩,.string ⟨x2.toArray⟩,.string ⟨x3.toArray⟩,.int .i64 nv,.slice A7 l7.length c7,.slice A8 l8.length c8,.string ⟨(([] : List UInt8)).toArray⟩]):=hown8
     have HPU : Hid ((nb && u5 && u6) = true → MpA t b2 L (k + 1) (w8.setCell ⟨b2,1,none⟩ (.slice A9 (ds.length + 1) c9))):=Lib.hid (fun hu => by
      rw [Bool.and_eq_true,Bool.and_eq_true] at hu
      exact MpA.pushD hb2 HR.out HX1.out.symm HX2.out.symm HX3.out.symm (HNV.out.trans (by rw [HX4.out])) ((HU5.out hu.1.2).trans (by rw [HX5.out])) ((HU6.out hu.2).trans (by rw [HX6.out])) HX7.out.symm HT7.out HST.out HGL.out hbx7 hmo7 HE1.out HE2.out hlo77 hlo87 hg8 hown8')
     have HS8:=Lib.hid ((hst7.grown hg8 hz8 (fun q hq => (hmo7.doors.lt q hq).1)).set (p:=⟨b2,1,none⟩) (.inl (by simp)) (.slice A9 (ds.length + 1) c9))
     have hbx8:=hbx7.otherOf hg8 (own_kindOf hmo7.doors) (by decide)
     clear m0 m1 m2 m3 zb hown8 hown8' hg8 hbx7 hmo7 hlo77 hlo87 hst7 hnb
     obtain ⟨m0,m1,m2,m3⟩ : _ ∧ _ ∧ _ ∧ _:=⟨hbx8.cell 0,hbx8.cell 1,hbx8.cell 2,hbx8.cell 3⟩
     simp only [List.getElem?_toArray,List.getElem?_cons_zero,List.getElem?_cons_succ] at m0 m1 m2 m3
     have zb:=hbx8.lt
     have f1:=hbx8.thaw 1
     refine hK.out _ _ (trivial) (fun hHeld => ?_)
     clear hK K
     (try simp only [Act.put,List.setIfInBounds_toArray,List.set_cons_zero,List.set_cons_succ])
     refine wpAnyH_ready (rs:=[8]) (by kernel_rfl) (by simp) ?_
     refine AllReadyH.cons rfl (fun K hK => ?_) AllReadyH.nil
     go_simp
     refine hK.out _ _ (trivial) (fun hHeld => ?_)
     clear hK K
     (try simp only [Act.put,List.setIfInBounds_toArray,List.set_cons_zero,List.set_cons_succ])
     (refine wpAnyH_take (i:=9) (v:=?_) (by (simp only [List.getElem?_toArray,List.getElem?_cons_succ,List.getElem?_cons_zero]; rfl)) (by kernel_rfl) (by kernel_rfl) (by kernel_rfl) (by exact fun _ _ _ h => h) (Or.inl ⟨by rfl,?_⟩) (by assumption) ?_; (rotate_left 1; (intro w hSw; (try dsimp only at hSw); go_simp); (try with_reducible rfl)); (try simp only [Act.put,List.setIfInBounds_toArray,List.set_cons_zero,List.set_cons_succ]))
     refine wpAnyH_ready (rs:=[10]) (by kernel_rfl) (by simp) ?_
     refine AllReadyH.cons rfl (fun K hK => ?_) AllReadyH.nil
     go_simp
     clear m0 m1 m2 m3 zb f1
     refine hK.out _ _ (trivial) (fun hHeld => ?_)
     clear hK K
     (try simp only [Act.put,List.setIfInBounds_toArray,List.set_cons_zero,List.set_cons_succ])
     refine wpAnyH_done (by kernel_rfl) ?_ _
     cases nb with
     | false =>
      go_wp2_with fail
      exact GOOD.out _ _ HS8.out HOK.out HPU.out
     | true =>
      cases u5 with
      | false =>
       go_wp2_with fail
       exact GOOD.out _ _ HS8.out HOK.out HPU.out
      | true =>
       go_wp2_with fail
       exact GOOD.out _ _ HS8.out (by rw [HOK.out]; rfl) HPU.out
    case refine_2 =>
     go_simp
     have hnb : Blk (X.alloc (.cells #[.string ⟨x1.toArray⟩,.string ⟨x2.toArray⟩,.string ⟨x3.toArray⟩,.int .i64 nv,.slice A7 l7.length c7,.slice A8 l8.length c8,.string ⟨#[]⟩] 66)) X.heap.size 66 #[.string ⟨x1.toArray⟩,.string ⟨x2.toArray⟩,.string ⟨x3.toArray⟩,.int .i64 nv,.slice A7 l7.length c7,.slice A8 l8.length c8,.string ⟨#[]⟩]:=Blk.new _ _ _
     replace hst7:=hst7.alloc hz7 (.cells #[.string ⟨x1.toArray⟩,.string ⟨x2.toArray⟩,.string ⟨x3.toArray⟩,.int .i64 nv,.slice A7 l7.length c7,.slice A8 l8.length c8,.string ⟨#[]⟩] 66)
     replace hbx7:=hbx7.alloc (.cells #[.string ⟨x1.toArray⟩,.string ⟨x2.toArray⟩,.string ⟨x3.toArray⟩,.int .i64 nv,.slice A7 l7.length c7,.slice A8 l8.length c8,.string ⟨#[]⟩] 66)
     replace hmo7:=hmo7.alloc (.cells #[.string ⟨x1.toArray⟩,.string ⟨x2.toArray⟩,.string ⟨x3.toArray⟩,.int .i64 nv,.slice A7 l7.length c7,.slice A8 l8.length c8,.string ⟨#[]⟩] 66)
     replace hlo77 : LstO (X.alloc (.cells #[.string ⟨x1.toArray⟩,.string ⟨x2.toArray⟩,.string ⟨x3.toArray⟩,.int .i64 nv,.slice A7 l7.length c7,.slice A8 l8.length c8,.string ⟨#[]⟩] 66)) L (A7,l7,c7):=hlo77.alloc _
     replace hlo87 : LstO (X.alloc (.cells #[.string ⟨x1.toArray⟩,.string ⟨x2.toArray⟩,.string ⟨x3.toArray⟩,.int .i64 nv,.slice A7 l7.length c7,.slice A8 l8.length c8,.string ⟨#[]⟩] 66)) L (A8,l8,c8):=hlo87.alloc _
     have hz8 : L ≤ (X.alloc (.cells #[.string ⟨x1.toArray⟩,.string ⟨x2.toArray⟩,.string ⟨x3.toArray⟩,.int .i64 nv,.slice A7 l7.length c7,.slice A8 l8.length c8,.string ⟨#[]⟩] 66)).heap.size:=by simp; omega
     clear m0 m1 m2 m3 zb
     obtain ⟨m0,m1,m2,m3⟩ : _ ∧ _ ∧ _ ∧ _:=⟨hbx7.cell 0,hbx7.cell 1,hbx7.cell 2,hbx7.cell 3⟩
     simp only [List.getElem?_toArray,List.getElem?_cons_zero,List.getElem?_cons_succ] at m0 m1 m2 m3
     have zb:=hbx7.lt
     refine hK.out _ _ (trivial) (fun hHeld => ?_)
     clear hK K
     (try simp only [Act.put,List.setIfInBounds_toArray,List.set_cons_zero,List.set_cons_succ])
     refine wpAnyH_ready (rs:=[4]) (by kernel_rfl) (by simp) ?_
     refine AllReadyH.cons rfl (fun K hK => ?_) AllReadyH.nil
     go_simp
     refine hK.out _ _ (trivial) (fun hHeld => ?_)
     clear hK K
     (try simp only [Act.put,List.setIfInBounds_toArray,List.set_cons_zero,List.set_cons_succ])
     refine wpAnyH_ready (rs:=[7]) (by kernel_rfl) (by simp) ?_
     refine AllReadyH.cons rfl (fun K hK => ?_) AllReadyH.nil
     refine step_app (lo:=L) (base:=L) (n:=ds.length) (xs:=ds.flatMap encD) _ rfl _ _ ty_doorm rfl hmo7.doors rfl (Row.lit hnb (Nat.le_trans hz7 (Nat.le_refl _)) rfl : Row _ L 7 _ 1 _) rfl rfl (by omega) (by omega) hz8 ?_
     intro A9 c9 w8 hown8 hg8 _
     have hown8' : w8.ownsRow L 66 7 (.slice A9 (ds.length + 1) c9) (ds.length + 1) (ds.flatMap encD ++ [.string ⟨x1.toArray⟩,.string ⟨x2.toArray⟩,.string ⟨x3.toArray⟩,.int .i64 nv,.slice A7 l7.length c7,.slice A8 l8.length c8,.string ⟨(([] : List UInt8)).toArray⟩]):=hown8
     have HPU : Hid ((nb && u5 && u6) = true → MpA t b2 L (k + 1) (w8.setCell ⟨b2,1,none⟩ (.slice A9 (ds.length + 1) c9))):=Lib.hid (fun hu => by
      rw [Bool.and_eq_true,Bool.and_eq_true] at hu
      exact MpA.pushD hb2 HR.out HX1.out.symm HX2.out.symm HX3.out.symm (HNV.out.trans (by rw [HX4.out])) ((HU5.out hu.1.2).trans (by rw [HX5.out])) ((HU6.out hu.2).trans (by rw [HX6.out])) HX7.out.symm HT7.out HST.out HGL.out hbx7 hmo7 HE1.out HE2.out hlo77 hlo87 hg8 hown8')
     have HS8:=Lib.hid ((hst7.grown hg8 hz8 (fun q hq => (hmo7.doors.lt q hq).1)).set (p:=⟨b2,1,none⟩) (.inl (by simp)) (.slice A9 (ds.length + 1) c9))
     have hbx8:=hbx7.otherOf hg8 (own_kindOf hmo7.doors) (by decide)
     clear m0 m1 m2 m3 zb hown8 hown8' hg8 hbx7 hmo7 hlo77 hlo87 hst7 hnb
     obtain ⟨m0,m1,m2,m3⟩ : _ ∧ _ ∧ _ ∧ _:=⟨hbx8.cell 0,hbx8.cell 1,hbx8.cell 2,hbx8.cell 3⟩
     simp only [List.getElem?_toArray,List.getElem?_cons_zero,List.getElem?_cons_succ] at m0 m1 m2 m3
     have zb:=hbx8.lt
     have f1:=hbx8.thaw 1
     refine hK.out _ _ (trivial) (fun hHeld => ?_)
     clear hK K
     (try simp only [Act.put,List.setIfInBounds_toArray,List.set_cons_zero,List.set_cons_succ])
     refine wpAnyH_ready (rs:=[8]) (by kernel_rfl) (by simp) ?_
     refine AllReadyH.cons rfl (fun K hK => ?_) AllReadyH.nil
     go_simp
     refine hK.out _ _ (trivial) (fun hHeld => ?_)
     clear hK K
     (try simp only [Act.put,List.setIfInBounds_toArray,List.set_cons_zero,List.set_cons_succ])
     (refine wpAnyH_take (i:=9) (v:=?_) (by (simp only [List.getElem?_toArray,List.getElem?_cons_succ,List.getElem?_cons_zero]; rfl)) (by kernel_rfl) (by kernel_rfl) (by kernel_rfl) (by exact fun _ _ _ h => h) (Or.inl ⟨by rfl,?_⟩) (by assumption) ?_; (rotate_left 1; (intro w hSw; (try dsimp only at hSw); go_simp); (try with_reducible rfl)); (try simp only [Act.put,List.setIfInBounds_toArray,List.set_cons_zero,List.set_cons_succ]))
     refine wpAnyH_ready (rs:=[10]) (by kernel_rfl) (by simp) ?_
     refine AllReadyH.cons rfl (fun K hK => ?_) AllReadyH.nil
     go_simp
     clear m0 m1 m2 m3 zb f1
     refine hK.out _ _ (trivial) (fun hHeld => ?_)
     clear hK K
     (try simp only [Act.put,List.setIfInBounds_toArray,List.set_cons_zero,List.set_cons_succ])
     refine wpAnyH_done (by kernel_rfl) ?_ _
     cases nb with
     | false =>
      go_wp2_with fail
      exact GOOD.out _ _ HS8.out HOK.out HPU.out
     | true =>
      cases u5 with
      | false =>
       go_wp2_with fail
       exact GOOD.out _ _ HS8.out HOK.out HPU.out
      | true =>
       go_wp2_with fail
       exact GOOD.out _ _ HS8.out (by rw [HOK.out]; rfl) HPU.out
   case refine_2 =>
    go_simp
    have hnb : Blk (X.alloc (.cells #[.string ⟨x1.toArray⟩,.string ⟨x2.toArray⟩,.string ⟨x3.toArray⟩,.int .i64 nv,.slice A7 l7.length c7,.slice A8 l8.length c8,.string ⟨#[]⟩] 66)) X.heap.size 66 #[.string ⟨x1.toArray⟩,.string ⟨x2.toArray⟩,.string ⟨x3.toArray⟩,.int .i64 nv,.slice A7 l7.length c7,.slice A8 l8.length c8,.string ⟨#[]⟩]:=Blk.new _ _ _
    replace hst7:=hst7.alloc hz7 (.cells #[.string ⟨x1.toArray⟩,.string ⟨x2.toArray⟩,.string ⟨x3.toArray⟩,.int .i64 nv,.slice A7 l7.length c7,.slice A8 l8.length c8,.string ⟨#[]⟩] 66)
    replace hbx7:=hbx7.alloc (.cells #[.string ⟨x1.toArray⟩,.string ⟨x2.toArray⟩,.string ⟨x3.toArray⟩,.int .i64 nv,.slice A7 l7.length c7,.slice A8 l8.length c8,.string ⟨#[]⟩] 66)
    replace hmo7:=hmo7.alloc (.cells #[.string ⟨x1.toArray⟩,.string ⟨x2.toArray⟩,.string ⟨x3.toArray⟩,.int .i64 nv,.slice A7 l7.length c7,.slice A8 l8.length c8,.string ⟨#[]⟩] 66)
    replace hlo77 : LstO (X.alloc (.cells #[.string ⟨x1.toArray⟩,.string ⟨x2.toArray⟩,.string ⟨x3.toArray⟩,.int .i64 nv,.slice A7 l7.length c7,.slice A8 l8.length c8,.string ⟨#[]⟩] 66)) L (A7,l7,c7):=hlo77.alloc _
    replace hlo87 : LstO (X.alloc (.cells #[.string ⟨x1.toArray⟩,.string ⟨x2.toArray⟩,.string ⟨x3.toArray⟩,.int .i64 nv,.slice A7 l7.length c7,.slice A8 l8.length c8,.string ⟨#[]⟩] 66)) L (A8,l8,c8):=hlo87.alloc _
    have hz8 : L ≤ (X.alloc (.cells #[.string ⟨x1.toArray⟩,.string ⟨x2.toArray⟩,.string ⟨x3.toArray⟩,.int .i64 nv,.slice A7 l7.length c7,.slice A8 l8.length c8,.string ⟨#[]⟩] 66)).heap.size:=by simp; omega
    clear m0 m1 m2 m3 zb
    obtain ⟨m0,m1,m2,m3⟩ : _ ∧ _ ∧ _ ∧ _:=⟨hbx7.cell 0,hbx7.cell 1,hbx7.cell 2,hbx7.cell 3⟩
    simp only [List.getElem?_toArray,List.getElem?_cons_zero,List.getElem?_cons_succ] at m0 m1 m2 m3
    have zb:=hbx7.lt
    refine hK.out _ _ (trivial) (fun hHeld => ?_)
    clear hK K
    (try simp only [Act.put,List.setIfInBounds_toArray,List.set_cons_zero,List.set_cons_succ])
    refine wpAnyH_ready (rs:=[2]) (by kernel_rfl) (by simp) ?_
    refine AllReadyH.cons rfl (fun K hK => ?_) AllReadyH.nil
    go_simp
    refine hK.out _ _ (trivial) (fun hHeld => ?_)
    clear hK K
    (try simp only [Act.put,List.setIfInBounds_toArray,List.set_cons_zero,List.set_cons_succ])
    (refine wpAnyH_take (i:=3) (v:=?_) (by (simp only [List.getElem?_toArray,List.getElem?_cons_succ,List.getElem?_cons_zero]; rfl)) (by kernel_rfl) (by kernel_rfl) (by kernel_rfl) (by exact fun _ _ _ h => h) (Or.inl ⟨by rfl,?_⟩) (by assumption) ?_; (rotate_left 1; (intro w hSw; (try dsimp only at hSw); go_simp); (try with_reducible rfl)); (try simp only [Act.put,List.setIfInBounds_toArray,List.set_cons_zero,List.set_cons_succ]))
    refine wpAnyH_ready (rs:=[4]) (by kernel_rfl) (by simp) ?_
    refine AllReadyH.cons rfl (fun K hK => ?_) AllReadyH.nil
    go_simp
    refine hK.out _ _ (trivial) (fun hHeld => ?_)
    clear hK K
    (try simp only [Act.put,List.setIfInBounds_toArray,List.set_cons_zero,List.set_cons_succ])
    refine wpAnyH_ready (rs:=[7]) (by kernel_rfl) (by simp) ?_
    refine AllReadyH.cons rfl (fun K hK => ?_) AllReadyH.nil
    refine step_app (lo:=L) (base:=L) (n:=ds.length) (xs:=ds.flatMap encD) _ rfl _ _ ty_doorm rfl hmo7.doors rfl (Row.lit hnb (Nat.le_trans hz7 (Nat.le_refl _)) rfl : Row _ L 7 _ 1 _) rfl rfl (by omega) (by omega) hz8 ?_
    intro A9 c9 w8 hown8 hg8 _
    have hown8' : w8.ownsRow L 66 7 (.slice A9 (ds.length + 1) c9) (ds.length + 1) (ds.flatMap encD ++ [.string ⟨x1.toArray⟩,.string ⟨x2.toArray⟩,.string ⟨x3.toArray⟩,.int .i64 nv,.slice A7 l7.length c7,.slice A8 l8.length c8,.string ⟨(([] : List UInt8)).toArray⟩]):=hown8
    have HPU : Hid ((nb && u5 && u6) = true → MpA t b2 L (k + 1) (w8.setCell ⟨b2,1,none⟩ (.slice A9 (ds.length + 1) c9))):=Lib.hid (fun hu => by
     rw [Bool.and_eq_true,Bool.and_eq_true] at hu
     exact MpA.pushD hb2 HR.out HX1.out.symm HX2.out.symm HX3.out.symm (HNV.out.trans (by rw [HX4.out])) ((HU5.out hu.1.2).trans (by rw [HX5.out])) ((HU6.out hu.2).trans (by rw [HX6.out])) HX7.out.symm HT7.out HST.out HGL.out hbx7 hmo7 HE1.out HE2.out hlo77 hlo87 hg8 hown8')
    have HS8:=Lib.hid ((hst7.grown hg8 hz8 (fun q hq => (hmo7.doors.lt q hq).1)).set (p:=⟨b2,1,none⟩) (.inl (by simp)) (.slice A9 (ds.length + 1) c9))
    have hbx8:=hbx7.otherOf hg8 (own_kindOf hmo7.doors) (by decide)
    clear m0 m1 m2 m3 zb hown8 hown8' hg8 hbx7 hmo7 hlo77 hlo87 hst7 hnb
    obtain ⟨m0,m1,m2,m3⟩ : _ ∧ _ ∧ _ ∧ _:=⟨hbx8.cell 0,hbx8.cell 1,hbx8.cell 2,hbx8.cell 3⟩
    simp only [List.getElem?_toArray,List.getElem?_cons_zero,List.getElem?_cons_succ] at m0 m1 m2 m3
    have zb:=hbx8.lt
    have f1:=hbx8.thaw 1
    refine hK.out _ _ (trivial) (fun hHeld => ?_)
    clear hK K
    (try simp only [Act.put,List.setIfInBounds_toArray,List.set_cons_zero,List.set_cons_succ])
    refine wpAnyH_ready (rs:=[8]) (by kernel_rfl) (by simp) ?_
    refine AllReadyH.cons rfl (fun K hK => ?_) AllReadyH.nil
    go_simp
    refine hK.out _ _ (trivial) (fun hHeld => ?_)
    clear hK K
    (try simp only [Act.put,List.setIfInBounds_toArray,List.set_cons_zero,List.set_cons_succ])
    (refine wpAnyH_take (i:=9) (v:=?_) (by (simp only [List.getElem?_toArray,List.getElem?_cons_succ,List.getElem?_cons_zero]; rfl)) (by kernel_rfl) (by kernel_rfl) (by kernel_rfl) (by exact fun _ _ _ h => h) (Or.inl ⟨by rfl,?_⟩) (by assumption) ?_; (rotate_left 1; (intro w hSw; (try dsimp only at hSw); go_simp); (try with_reducible rfl)); (try simp only [Act.put,List.setIfInBounds_toArray,List.set_cons_zero,List.set_cons_succ]))
    refine wpAnyH_ready (rs:=[10]) (by kernel_rfl) (by simp) ?_
    refine AllReadyH.cons rfl (fun K hK => ?_) AllReadyH.nil
    go_simp
    clear m0 m1 m2 m3 zb f1
    refine hK.out _ _ (trivial) (fun hHeld => ?_)
    clear hK K
    (try simp only [Act.put,List.setIfInBounds_toArray,List.set_cons_zero,List.set_cons_succ])
    refine wpAnyH_done (by kernel_rfl) ?_ _
    cases nb with
    | false =>
     go_wp2_with fail
     exact GOOD.out _ _ HS8.out HOK.out HPU.out
    | true =>
     cases u5 with
     | false =>
      go_wp2_with fail
      exact GOOD.out _ _ HS8.out HOK.out HPU.out
     | true =>
      go_wp2_with fail
      exact GOOD.out _ _ HS8.out (by rw [HOK.out]; rfl) HPU.out
 ·have HT7 : Hid (x7 = if x7 = [45] then [] else x7):=Lib.hid (by rw [if_neg h7])
  have d7 : (x7 == [45]) = false:=beq_eq_false_iff_ne.2 h7
  clear h7
  have k6:=hdb.w7.2.2.2.2.2.2
  have f6:=hdb.thaw 6
  have zd:=hdb.lt
  go_upto_region 18 with (fail)
  have hdb7:=hdb
  have hst7:=hst5
  have hbx7:=hbx5
  have hmo7:=hmo5
  have hlo77:=hlo7
  have hlo87:=hlo8
  have hz7:=hz6
  clear hdb hst5 hbx5 hmo5 hlo7 hlo8 hz6
  generalize Y = Z at *
  clear k6 f6 zd
  have hbz : Below Z.heap.size Z Z.drew:=below_drewN' (Below.refl _ _) 1
  replace hst7:=hst7.trans (Stays.of_below (bs:=[b2]) hbz hz7)
  replace hz7 : L ≤ Z.drew.heap.size:=Nat.le_trans hz7 hbz.size
  replace hbx7:=hbx7.below hbz
  replace hmo7:=hmo7.below hbz
  replace hdb7:=hdb7.below hbz
  replace hlo77 : LstO Z.drew L (A7,l7,c7):=own_keep hlo77 hbz
  replace hlo87 : LstO Z.drew L (A8,l8,c8):=own_keep hlo87 hbz
  clear hbz
  refine wp_region_held_drew (S:=(fun _ => True)) (by kernel_rfl) (trivial) (fun hHeld => ?_)
  generalize Z.drew = X at *
  obtain ⟨m0,m1,m2,m3⟩ : _ ∧ _ ∧ _ ∧ _:=⟨hbx7.cell 0,hbx7.cell 1,hbx7.cell 2,hbx7.cell 3⟩
  simp only [List.getElem?_toArray,List.getElem?_cons_zero,List.getElem?_cons_succ] at m0 m1 m2 m3
  have zb:=hbx7.lt
  (refine wpAnyH_take (i:=0) (v:=?_) (by (simp only [List.getElem?_toArray,List.getElem?_cons_zero]; rfl)) (by kernel_rfl) (by kernel_rfl) (by kernel_rfl) (by exact fun _ _ _ h => h) (Or.inl ⟨by rfl,?_⟩) (by assumption) ?_; (rotate_left 1; (intro w hSw; (try dsimp only at hSw); go_simp); (try with_reducible rfl)); (try simp only [Act.put,List.setIfInBounds_toArray,List.set_cons_zero,List.set_cons_succ]))
  (refine wpAnyH_take (i:=1) (v:=?_) (by (simp only [List.getElem?_toArray,List.getElem?_cons_succ,List.getElem?_cons_zero]; rfl)) (by kernel_rfl) (by kernel_rfl) (by kernel_rfl) (by exact fun _ _ _ h => h) (Or.inl ⟨by rfl,?_⟩) (by assumption) ?_; (rotate_left 1; (intro w hSw; (try dsimp only at hSw); go_simp); (try with_reducible rfl)); (try simp only [Act.put,List.setIfInBounds_toArray,List.set_cons_zero,List.set_cons_succ]))
  refine wpAnyH_ready (rs:=[2,5]) (by kernel_rfl) (by simp) ?_
  refine AllReadyH.cons rfl (fun K hK => ?_) (AllReadyH.cons rfl (fun K hK => ?_) AllReadyH.nil)
  case refine_1 =>
   go_simp
   refine hK.out _ _ (trivial) (fun hHeld => ?_)
   clear hK K
   (try simp only [Act.put,List.setIfInBounds_toArray,List.set_cons_zero,List.set_cons_succ])
   (refine wpAnyH_take (i:=3) (v:=?_) (by (simp only [List.getElem?_toArray,List.getElem?_cons_succ,List.getElem?_cons_zero]; rfl)) (by kernel_rfl) (by kernel_rfl) (by kernel_rfl) (by exact fun _ _ _ h => h) (Or.inl ⟨by rfl,?_⟩) (by assumption) ?_; (rotate_left 1; (intro w hSw; (try dsimp only at hSw); go_simp); (try with_reducible rfl)); (try simp only [Act.put,List.setIfInBounds_toArray,List.set_cons_zero,List.set_cons_succ]))
   refine wpAnyH_ready (rs:=[4,5]) (by kernel_rfl) (by simp) ?_
   refine AllReadyH.cons rfl (fun K hK => ?_) (AllReadyH.cons rfl (fun K hK => ?_) AllReadyH.nil)
   case refine_1 =>
    go_simp
    refine hK.out _ _ (trivial) (fun hHeld => ?_)
    clear hK K
    (try simp only [Act.put,List.setIfInBounds_toArray,List.set_cons_zero,List.set_cons_succ])
    refine wpAnyH_ready (rs:=[5]) (by kernel_rfl) (by simp) ?_
    refine AllReadyH.cons rfl (fun K hK => ?_) AllReadyH.nil
    obtain ⟨k0,k1,k2,k3,k4,k5,k6⟩:=hdb7.w7
    have zd:=hdb7.lt
    go_simp
    clear k0 k1 k2 k3 k4 k5 k6 zd
    refine hK.out _ _ (trivial) (fun hHeld => ?_)
    clear hK K
    (try simp only [Act.put,List.setIfInBounds_toArray,List.set_cons_zero,List.set_cons_succ])
    refine wpAnyH_ready (rs:=[6]) (by kernel_rfl) (by simp) ?_
    refine AllReadyH.cons rfl (fun K hK => ?_) AllReadyH.nil
    go_simp
    have hnb : Blk (X.alloc (.cells #[.string ⟨x1.toArray⟩,.string ⟨x2.toArray⟩,.string ⟨x3.toArray⟩,.int .i64 nv,.slice A7 l7.length c7,.slice A8 l8.length c8,.string ⟨x7.toArray⟩] 66)) X.heap.size 66 #[.string ⟨x1.toArray⟩,.string ⟨x2.toArray⟩,.string ⟨x3.toArray⟩,.int .i64 nv,.slice A7 l7.length c7,.slice A8 l8.length c8,.string ⟨x7.toArray⟩]:=Blk.new _ _ _
    replace hst7:=hst7.alloc hz7 (.cells #[.string ⟨x1.toArray⟩,.string ⟨x2.toArray⟩,.string ⟨x3.toArray⟩,.int .i64 nv,.slice A7 l7.length c7,.slice A8 l8.length c8,.string ⟨x7.toArray⟩] 66)
    replace hbx7:=hbx7.alloc (.cells #[.string ⟨x1.toArray⟩,.string ⟨x2.toArray⟩,.string ⟨x3.toArray⟩,.int .i64 nv,.slice A7 l7.length c7,.slice A8 l8.length c8,.string ⟨x7.toArray⟩] 66)
    replace hmo7:=hmo7.alloc (.cells #[.string ⟨x1.toArray⟩,.string ⟨x2.toArray⟩,.string ⟨x3.toArray⟩,.int .i64 nv,.slice A7 l7.length c7,.slice A8 l8.length c8,.string ⟨x7.toArray⟩] 66)
    replace hlo77 : LstO (X.alloc (.cells #[.string ⟨x1.toArray⟩,.string ⟨x2.toArray⟩,.string ⟨x3.toArray⟩,.int .i64 nv,.slice A7 l7.length c7,.slice A8 l8.length c8,.string ⟨x7.toArray⟩] 66)) L (A7,l7,c7):=hlo77.alloc _
    replace hlo87 : LstO (X.alloc (.cells #[.string ⟨x1.toArray⟩,.string ⟨x2.toArray⟩,.string ⟨x3.toArray⟩,.int .i64 nv,.slice A7 l7.length c7,.slice A8 l8.length c8,.string ⟨x7.toArray⟩] 66)) L (A8,l8,c8):=hlo87.alloc _
    have hz8 : L ≤ (X.alloc (.cells #[.string ⟨x1.toArray⟩,.string ⟨x2.toArray⟩,.string ⟨x3.toArray⟩,.int .i64 nv,.slice A7 l7.length c7,.slice A8 l8.length c8,.string ⟨x7.toArray⟩] 66)).heap.size:=by simp; omega
    clear m0 m1 m2 m3 zb
    obtain ⟨m0,m1,m2,m3⟩ : _ ∧ _ ∧ _ ∧ _:=⟨hbx7.cell 0,hbx7.cell 1,hbx7.cell 2,hbx7.cell 3⟩
    simp only [List.getElem?_toArray,List.getElem?_cons_zero,List.getElem?_cons_succ] at m0 m1 m2 m3
    have zb:=hbx7.lt
    refine hK.out _ _ (trivial) (fun hHeld => ?_)
    clear hK K
    (try simp only [Act.put,List.setIfInBounds_toArray,List.set_cons_zero,List.set_cons_succ])
    refine wpAnyH_ready (rs:=[7]) (by kernel_rfl) (by simp) ?_
    refine AllReadyH.cons rfl (fun K hK => ?_) AllReadyH.nil
    refine step_app (lo:=L) (base:=L) (n:=ds.length) (xs:=ds.flatMap encD) _ rfl _ _ ty_doorm rfl hmo7.doors rfl (Row.lit hnb (Nat.le_trans hz7 (Nat.le_refl _)) rfl : Row _ L 7 _ 1 _) rfl rfl (by omega) (by omega) hz8 ?_
    intro A9 c9 w8 hown8 hg8 _
    have hown8' : w8.ownsRow L 66 7 (.slice A9 (ds.length + 1) c9) (ds.length + 1) (ds.flatMap encD ++ [.string ⟨x1.toArray⟩,.string ⟨x2.toArray⟩,.string ⟨x3.toArray⟩,.int .i64 nv,.slice A7 l7.length c7,.slice A8 l8.length c8,.string ⟨(x7).toArray⟩]):=hown8
    have HPU : Hid ((nb && u5 && u6) = true → MpA t b2 L (k + 1) (w8.setCell ⟨b2,1,none⟩ (.slice A9 (ds.length + 1) c9))):=Lib.hid (fun hu => by
     rw [Bool.and_eq_true,Bool.and_eq_true] at hu
     exact MpA.pushD hb2 HR.out HX1.out.symm HX2.out.symm HX3.out.symm (HNV.out.trans (by rw [HX4.out])) ((HU5.out hu.1.2).trans (by rw [HX5.out])) ((HU6.out hu.2).trans (by rw [HX6.out])) HX7.out.symm HT7.out HST.out HGL.out hbx7 hmo7 HE1.out HE2.out hlo77 hlo87 hg8 hown8')
    have HS8:=Lib.hid ((hst7.grown hg8 hz8 (fun q hq => (hmo7.doors.lt q hq).1)).set (p:=⟨b2,1,none⟩) (.inl (by simp)) (.slice A9 (ds.length + 1) c9))
    have hbx8:=hbx7.otherOf hg8 (own_kindOf hmo7.doors) (by decide)
    clear m0 m1 m2 m3 zb hown8 hown8' hg8 hbx7 hmo7 hlo77 hlo87 hst7 hnb
    obtain ⟨m0,m1,m2,m3⟩ : _ ∧ _ ∧ _ ∧ _:=⟨hbx8.cell 0,hbx8.cell 1,hbx8.cell 2,hbx8.cell 3⟩
    simp only [List.getElem?_toArray,List.getElem?_cons_zero,List.getElem?_cons_succ] at m0 m1 m2 m3
    have zb:=hbx8.lt
    have f1:=hbx8.thaw 1
    refine hK.out _ _ (trivial) (fun hHeld => ?_)
    clear hK K
    (try simp only [Act.put,List.setIfInBounds_toArray,List.set_cons_zero,List.set_cons_succ])
    refine wpAnyH_ready (rs:=[8]) (by kernel_rfl) (by simp) ?_
    refine AllReadyH.cons rfl (fun K hK => ?_) AllReadyH.nil
    go_simp
    refine hK.out _ _ (trivial) (fun hHeld => ?_)
    clear hK K
    (try simp only [Act.put,List.setIfInBounds_toArray,List.set_cons_zero,List.set_cons_succ])
    (refine wpAnyH_take (i:=9) (v:=?_) (by (simp only [List.getElem?_toArray,List.getElem?_cons_succ,List.getElem?_cons_zero]; rfl)) (by kernel_rfl) (by kernel_rfl) (by kernel_rfl) (by exact fun _ _ _ h => h) (Or.inl ⟨by rfl,?_⟩) (by assumption) ?_; (rotate_left 1; (intro w hSw; (try dsimp only at hSw); go_simp); (try with_reducible rfl)); (try simp only [Act.put,List.setIfInBounds_toArray,List.set_cons_zero,List.set_cons_succ]))
    refine wpAnyH_ready (rs:=[10]) (by kernel_rfl) (by simp) ?_
    refine AllReadyH.cons rfl (fun K hK => ?_) AllReadyH.nil
    go_simp
    clear m0 m1 m2 m3 zb f1
    refine hK.out _ _ (trivial) (fun hHeld => ?_)
    clear hK K
    (try simp only [Act.put,List.setIfInBounds_toArray,List.set_cons_zero,List.set_cons_succ])
    refine wpAnyH_done (by kernel_rfl) ?_ _
    cases nb with
    | false =>
     go_wp2_with fail
     exact GOOD.out _ _ HS8.out HOK.out HPU.out
    | true =>
     cases u5 with
     | false =>
      go_wp2_with fail
      exact GOOD.out _ _ HS8.out HOK.out HPU.out
     | true =>
      go_wp2_with fail
      exact GOOD.out _ _ HS8.out (by rw [HOK.out]; rfl) HPU.out
   case refine_2 =>
    obtain ⟨k0,k1,k2,k3,k4,k5,k6⟩:=hdb7.w7
    have zd:=hdb7.lt
    go_simp
    clear k0 k1 k2 k3 k4 k5 k6 zd
    refine hK.out _ _ (trivial) (fun hHeld => ?_)
    clear hK K
    (try simp only [Act.put,List.setIfInBounds_toArray,List.set_cons_zero,List.set_cons_succ])
    refine wpAnyH_ready (rs:=[4,6]) (by kernel_rfl) (by simp) ?_
    refine AllReadyH.cons rfl (fun K hK => ?_) (AllReadyH.cons rfl (fun K hK => ?_) AllReadyH.nil)
    case refine_1 =>
     go_simp
     refine hK.out _ _ (trivial) (fun hHeld => ?_)
     clear hK K
     (try simp only [Act.put,List.setIfInBounds_toArray,List.set_cons_zero,List.set_cons_succ])
     refine wpAnyH_ready (rs:=[6]) (by kernel_rfl) (by simp) ?_
     refine AllReadyH.cons rfl (fun K hK => ?_) AllReadyH.nil
     go_simp
     have hnb : Blk (X.alloc (.cells #[.string ⟨x1.toArray⟩,.string ⟨x2.toArray⟩,.string ⟨x3.toArray⟩,.int .i64 nv,.slice A7 l7.length c7,.slice A8 l8.length c8,.string ⟨x7.toArray⟩] 66)) X.heap.size 66 #[.string ⟨x1.toArray⟩,.string ⟨x2.toArray⟩,.string ⟨x3.toArray⟩,.int .i64 nv,.slice A7 l7.length c7,.slice A8 l8.length c8,.string ⟨x7.toArray⟩]:=Blk.new _ _ _
     replace hst7:=hst7.alloc hz7 (.cells #[.string ⟨x1.toArray⟩,.string ⟨x2.toArray⟩,.string ⟨x3.toArray⟩,.int .i64 nv,.slice A7 l7.length c7,.slice A8 l8.length c8,.string ⟨x7.toArray⟩] 66)
     replace hbx7:=hbx7.alloc (.cells #[.string ⟨x1.toArray⟩,.string ⟨x2.toArray⟩,.string ⟨x3.toArray⟩,.int .i64 nv,.slice A7 l7.length c7,.slice A8 l8.length c8,.string ⟨x7.toArray⟩] 66)
     replace hmo7:=hmo7.alloc (.cells #[.string ⟨x1.toArray⟩,.string ⟨x2.toArray⟩,.string ⟨x3.toArray⟩,.int .i64 nv,.slice A7 l7.length c7,.slice A8 l8.length c8,.string ⟨x7.toArray⟩] 66)
     replace hlo77 : LstO (X.alloc (.cells #[.string ⟨x1.toArray⟩,.string ⟨x2.toArray⟩,.string ⟨x3.toArray⟩,.int .i64 nv,.slice A7 l7.length c7,.slice A8 l8.length c8,.string ⟨x7.toArray⟩] 66)) L (A7,l7,c7):=hlo77.alloc _
     replace hlo87 : LstO (X.alloc (.cells #[.string ⟨x1.toArray⟩,.string ⟨x2.toArray⟩,.string ⟨x3.toArray⟩,.int .i64 nv,.slice A7 l7.length c7,.slice A8 l8.length c8,.string ⟨x7.toArray⟩] 66)) L (A8,l8,c8):=hlo87.alloc _
     have hz8 : L ≤ (X.alloc (.cells #[.string ⟨x1.toArray⟩,.string ⟨x2.toArray⟩,.string ⟨x3.toArray⟩,.int .i64 nv,.slice A7 l7.length c7,.slice A8 l8.length c8,.string ⟨x7.toArray⟩] 66)).heap.size:=by simp; omega
     clear m0 m1 m2 m3 zb
     obtain ⟨m0,m1,m2,m3⟩ : _ ∧ _ ∧ _ ∧ _:=⟨hbx7.cell 0,hbx7.cell 1,hbx7.cell 2,hbx7.cell 3⟩
     simp only [List.getElem?_toArray,List.getElem?_cons_zero,List.getElem?_cons_succ] at m0 m1 m2 m3
     have zb:=hbx7.lt
     refine hK.out _ _ (trivial) (fun hHeld => ?_)
     clear hK K
     (try simp only [Act.put,List.setIfInBounds_toArray,List.set_cons_zero,List.set_cons_succ])
     refine wpAnyH_ready (rs:=[7]) (by kernel_rfl) (by simp) ?_
     refine AllReadyH.cons rfl (fun K hK => ?_) AllReadyH.nil
     refine step_app (lo:=L) (base:=L) (n:=ds.length) (xs:=ds.flatMap encD) _ rfl _ _ ty_doorm rfl hmo7.doors rfl (Row.lit hnb (Nat.le_trans hz7 (Nat.le_refl _)) rfl : Row _ L 7 _ 1 _) rfl rfl (by omega) (by omega) hz8 ?_
     intro A9 c9 w8 hown8 hg8 _
     have hown8' : w8.ownsRow L 66 7 (.slice A9 (ds.length + 1) c9) (ds.length + 1) (ds.flatMap encD ++ [.string ⟨x1.toArray⟩,.string ⟨x2.toArray⟩,.string ⟨x3.toArray⟩,.int .i64 nv,.slice A7 l7.length c7,.slice A8 l8.length c8,.string ⟨(x7).toArray⟩]):=hown8
     have HPU : Hid ((nb && u5 && u6) = true → MpA t b2 L (k + 1) (w8.setCell ⟨b2,1,none⟩ (.slice A9 (ds.length + 1) c9))):=Lib.hid (fun hu => by
      rw [Bool.and_eq_true,Bool.and_eq_true] at hu
      exact MpA.pushD hb2 HR.out HX1.out.symm HX2.out.symm HX3.out.symm (HNV.out.trans (by rw [HX4.out])) ((HU5.out hu.1.2).trans (by rw [HX5.out])) ((HU6.out hu.2).trans (by rw [HX6.out])) HX7.out.symm HT7.out HST.out HGL.out hbx7 hmo7 HE1.out HE2.out hlo77 hlo87 hg8 hown8')
     have HS8:=Lib.hid ((hst7.grown hg8 hz8 (fun q hq => (hmo7.doors.lt q hq).1)).set (p:=⟨b2,1,none⟩) (.inl (by simp)) (.slice A9 (ds.length + 1) c9))
     have hbx8:=hbx7.otherOf hg8 (own_kindOf hmo7.doors) (by decide)
     clear m0 m1 m2 m3 zb hown8 hown8' hg8 hbx7 hmo7 hlo77 hlo87 hst7 hnb
     obtain ⟨m0,m1,m2,m3⟩ : _ ∧ _ ∧ _ ∧ _:=⟨hbx8.cell 0,hbx8.cell 1,hbx8.cell 2,hbx8.cell 3⟩
     simp only [List.getElem?_toArray,List.getElem?_cons_zero,List.getElem?_cons_succ] at m0 m1 m2 m3
     have zb:=hbx8.lt
     have f1:=hbx8.thaw 1
     refine hK.out _ _ (trivial) (fun hHeld => ?_)
     clear hK K
     (try simp only [Act.put,List.setIfInBounds_toArray,List.set_cons_zero,List.set_cons_succ])
     refine wpAnyH_ready (rs:=[8]) (by kernel_rfl) (by simp) ?_
     refine AllReadyH.cons rfl (fun K hK => ?_) AllReadyH.nil
     go_simp
     refine hK.out _ _ (trivial) (fun hHeld => ?_)
     clear hK K
     (try simp only [Act.put,List.setIfInBounds_toArray,List.set_cons_zero,List.set_cons_succ])
     (refine wpAnyH_take (i:=9) (v:=?_) (by (simp only [List.getElem?_toArray,List.getElem?_cons_succ,List.getElem?_cons_zero]; rfl)) (by kernel_rfl) (by kernel_rfl) (by kernel_rfl) (by exact fun _ _ _ h => h) (Or.inl ⟨by rfl,?_⟩) (by assumption) ?_; (rotate_left 1; (intro w hSw; (try dsimp only at hSw); go_simp); (try with_reducible rfl)); (try simp only [Act.put,List.setIfInBounds_toArray,List.set_cons_zero,List.set_cons_succ]))
     refine wpAnyH_ready (rs:=[10]) (by kernel_rfl) (by simp) ?_
     refine AllReadyH.cons rfl (fun K hK => ?_) AllReadyH.nil
     go_simp
     clear m0 m1 m2 m3 zb f1
     refine hK.out _ _ (trivial) (fun hHeld => ?_)
     clear hK K
     (try simp only [Act.put,List.setIfInBounds_toArray,List.set_cons_zero,List.set_cons_succ])
     refine wpAnyH_done (by kernel_rfl) ?_ _
     cases nb with
     | false =>
      go_wp2_with fail
      exact GOOD.out _ _ HS8.out HOK.out HPU.out
     | true =>
      cases u5 with
      | false =>
       go_wp2_with fail
       exact GOOD.out _ _ HS8.out HOK.out HPU.out
      | true =>
       go_wp2_with fail
       exact GOOD.out _ _ HS8.out (by rw [HOK.out]; rfl) HPU.out
    case refine_2 =>
     go_simp
     have hnb : Blk (X.alloc (.cells #[.string ⟨x1.toArray⟩,.string ⟨x2.toArray⟩,.string ⟨x3.toArray⟩,.int .i64 nv,.slice A7 l7.length c7,.slice A8 l8.length c8,.string ⟨x7.toArray⟩] 66)) X.heap.size 66 #[.string ⟨x1.toArray⟩,.string ⟨x2.toArray⟩,.string ⟨x3.toArray⟩,.int .i64 nv,.slice A7 l7.length c7,.slice A8 l8.length c8,.string ⟨x7.toArray⟩]:=Blk.new _ _ _
     replace hst7:=hst7.alloc hz7 (.cells #[.string ⟨x1.toArray⟩,.string ⟨x2.toArray⟩,.string ⟨x3.toArray⟩,.int .i64 nv,.slice A7 l7.length c7,.slice A8 l8.length c8,.string ⟨x7.toArray⟩] 66)
     replace hbx7:=hbx7.alloc (.cells #[.string ⟨x1.toArray⟩,.string ⟨x2.toArray⟩,.string ⟨x3.toArray⟩,.int .i64 nv,.slice A7 l7.length c7,.slice A8 l8.length c8,.string ⟨x7.toArray⟩] 66)
     replace hmo7:=hmo7.alloc (.cells #[.string ⟨x1.toArray⟩,.string ⟨x2.toArray⟩,.string ⟨x3.toArray⟩,.int .i64 nv,.slice A7 l7.length c7,.slice A8 l8.length c8,.string ⟨x7.toArray⟩] 66)
     replace hlo77 : LstO (X.alloc (.cells #[.string ⟨x1.toArray⟩,.string ⟨x2.toArray⟩,.string ⟨x3.toArray⟩,.int .i64 nv,.slice A7 l7.length c7,.slice A8 l8.length c8,.string ⟨x7.toArray⟩] 66)) L (A7,l7,c7):=hlo77.alloc _
     replace hlo87 : LstO (X.alloc (.cells #[.string ⟨x1.toArray⟩,.string ⟨x2.toArray⟩,.string ⟨x3.toArray⟩,.int .i64 nv,.slice A7 l7.length c7,.slice A8 l8.length c8,.string ⟨x7.toArray⟩] 66)) L (A8,l8,c8):=hlo87.alloc _
     have hz8 : L ≤ (X.alloc (.cells #[.string ⟨x1.toArray⟩,.string ⟨x2.toArray⟩,.string ⟨x3.toArray⟩,.int .i64 nv,.slice A7 l7.length c7,.slice A8 l8.length c8,.string ⟨x7.toArray⟩] 66)).heap.size:=by simp; omega
     clear m0 m1 m2 m3 zb
     obtain ⟨m0,m1,m2,m3⟩ : _ ∧ _ ∧ _ ∧ _:=⟨hbx7.cell 0,hbx7.cell 1,hbx7.cell 2,hbx7.cell 3⟩
     simp only [List.getElem?_toArray,List.getElem?_cons_zero,List.getElem?_cons_succ] at m0 m1 m2 m3
     have zb:=hbx7.lt
     refine hK.out _ _ (trivial) (fun hHeld => ?_)
     clear hK K
     (try simp only [Act.put,List.setIfInBounds_toArray,List.set_cons_zero,List.set_cons_succ])
     refine wpAnyH_ready (rs:=[4]) (by kernel_rfl) (by simp) ?_
     refine AllReadyH.cons rfl (fun K hK => ?_) AllReadyH.nil
     go_simp
     refine hK.out _ _ (trivial) (fun hHeld => ?_)
     clear hK K
     (try simp only [Act.put,List.setIfInBounds_toArray,List.set_cons_zero,List.set_cons_succ])
     refine wpAnyH_ready (rs:=[7]) (by kernel_rfl) (by simp) ?_
     refine AllReadyH.cons rfl (fun K hK => ?_) AllReadyH.nil
     refine step_app (lo:=L) (base:=L) (n:=ds.length) (xs:=ds.flatMap encD) _ rfl _ _ ty_doorm rfl hmo7.doors rfl (Row.lit hnb (Nat.le_trans hz7 (Nat.le_refl _)) rfl : Row _ L 7 _ 1 _) rfl rfl (by omega) (by omega) hz8 ?_
     intro A9 c9 w8 hown8 hg8 _
     have hown8' : w8.ownsRow L 66 7 (.slice A9 (ds.length + 1) c9) (ds.length + 1) (ds.flatMap encD ++ [.string ⟨x1.toArray⟩,.string ⟨x2.toArray⟩,.string ⟨x3.toArray⟩,.int .i64 nv,.slice A7 l7.length c7,.slice A8 l8.length c8,.string ⟨(x7).toArray⟩]):=hown8
     have HPU : Hid ((nb && u5 && u6) = true → MpA t b2 L (k + 1) (w8.setCell ⟨b2,1,none⟩ (.slice A9 (ds.length + 1) c9))):=Lib.hid (fun hu => by
      rw [Bool.and_eq_true,Bool.and_eq_true] at hu
      exact MpA.pushD hb2 HR.out HX1.out.symm HX2.out.symm HX3.out.symm (HNV.out.trans (by rw [HX4.out])) ((HU5.out hu.1.2).trans (by rw [HX5.out])) ((HU6.out hu.2).trans (by rw [HX6.out])) HX7.out.symm HT7.out HST.out HGL.out hbx7 hmo7 HE1.out HE2.out hlo77 hlo87 hg8 hown8')
     have HS8:=Lib.hid ((hst7.grown hg8 hz8 (fun q hq => (hmo7.doors.lt q hq).1)).set (p:=⟨b2,1,none⟩) (.inl (by simp)) (.slice A9 (ds.length + 1) c9))
     have hbx8:=hbx7.otherOf hg8 (own_kindOf hmo7.doors) (by decide)
     clear m0 m1 m2 m3 zb hown8 hown8' hg8 hbx7 hmo7 hlo77 hlo87 hst7 hnb
     obtain ⟨m0,m1,m2,m3⟩ : _ ∧ _ ∧ _ ∧ _:=⟨hbx8.cell 0,hbx8.cell 1,hbx8.cell 2,hbx8.cell 3⟩
     simp only [List.getElem?_toArray,List.getElem?_cons_zero,List.getElem?_cons_succ] at m0 m1 m2 m3
     have zb:=hbx8.lt
     have f1:=hbx8.thaw 1
     refine hK.out _ _ (trivial) (fun hHeld => ?_)
     clear hK K
     (try simp only [Act.put,List.setIfInBounds_toArray,List.set_cons_zero,List.set_cons_succ])
     refine wpAnyH_ready (rs:=[8]) (by kernel_rfl) (by simp) ?_
     refine AllReadyH.cons rfl (fun K hK => ?_) AllReadyH.nil
     go_simp
     refine hK.out _ _ (trivial) (fun hHeld => ?_)
     clear hK K
     (try simp only [Act.put,List.setIfInBounds_toArray,List.set_cons_zero,List.set_cons_succ])
     (refine wpAnyH_take (i:=9) (v:=?_) (by (simp only [List.getElem?_toArray,List.getElem?_cons_succ,List.getElem?_cons_zero]; rfl)) (by kernel_rfl) (by kernel_rfl) (by kernel_rfl) (by exact fun _ _ _ h => h) (Or.inl ⟨by rfl,?_⟩) (by assumption) ?_; (rotate_left 1; (intro w hSw; (try dsimp only at hSw); go_simp); (try with_reducible rfl)); (try simp only [Act.put,List.setIfInBounds_toArray,List.set_cons_zero,List.set_cons_succ]))
     refine wpAnyH_ready (rs:=[10]) (by kernel_rfl) (by simp) ?_
     refine AllReadyH.cons rfl (fun K hK => ?_) AllReadyH.nil
     go_simp
     clear m0 m1 m2 m3 zb f1
     refine hK.out _ _ (trivial) (fun hHeld => ?_)
     clear hK K
     (try simp only [Act.put,List.setIfInBounds_toArray,List.set_cons_zero,List.set_cons_succ])
     refine wpAnyH_done (by kernel_rfl) ?_ _
     cases nb with
     | false =>
      go_wp2_with fail
      exact GOOD.out _ _ HS8.out HOK.out HPU.out
     | true =>
      cases u5 with
      | false =>
       go_wp2_with fail
       exact GOOD.out _ _ HS8.out HOK.out HPU.out
      | true =>
       go_wp2_with fail
       exact GOOD.out _ _ HS8.out (by rw [HOK.out]; rfl) HPU.out
  case refine_2 =>
   obtain ⟨k0,k1,k2,k3,k4,k5,k6⟩:=hdb7.w7
   have zd:=hdb7.lt
   go_simp
   clear k0 k1 k2 k3 k4 k5 k6 zd
   refine hK.out _ _ (trivial) (fun hHeld => ?_)
   clear hK K
   (try simp only [Act.put,List.setIfInBounds_toArray,List.set_cons_zero,List.set_cons_succ])
   refine wpAnyH_ready (rs:=[2,6]) (by kernel_rfl) (by simp) ?_
   refine AllReadyH.cons rfl (fun K hK => ?_) (AllReadyH.cons rfl (fun K hK => ?_) AllReadyH.nil)
   case refine_1 =>
    go_simp
    refine hK.out _ _ (trivial) (fun hHeld => ?_)
    clear hK K
    (try simp only [Act.put,List.setIfInBounds_toArray,List.set_cons_zero,List.set_cons_succ])
    (refine wpAnyH_take (i:=3) (v:=?_) (by (simp only [List.getElem?_toArray,List.getElem?_cons_succ,List.getElem?_cons_zero]; rfl)) (by kernel_rfl) (by kernel_rfl) (by kernel_rfl) (by exact fun _ _ _ h => h) (Or.inl ⟨by rfl,?_⟩) (by assumption) ?_; (rotate_left 1; (intro w hSw; (try dsimp only at hSw); go_simp); (try with_reducible rfl)); (try simp only [Act.put,List.setIfInBounds_toArray,List.set_cons_zero,List.set_cons_succ]))
    refine wpAnyH_ready (rs:=[4,6]) (by kernel_rfl) (by simp) ?_
    refine AllReadyH.cons rfl (fun K hK => ?_) (AllReadyH.cons rfl (fun K hK => ?_) AllReadyH.nil)
    case refine_1 =>
     go_simp
     refine hK.out _ _ (trivial) (fun hHeld => ?_)
     clear hK K
     (try simp only [Act.put,List.setIfInBounds_toArray,List.set_cons_zero,List.set_cons_succ])
     refine wpAnyH_ready (rs:=[6]) (by kernel_rfl) (by simp) ?_
     refine AllReadyH.cons rfl (fun K hK => ?_) AllReadyH.nil
     go_simp
     have hnb : Blk (X.alloc (.cells #[.string ⟨x1.toArray⟩,.string ⟨x2.toArray⟩,.string ⟨x3.toArray⟩,.int .i64 nv,.slice A7 l7.length c7,.slice A8 l8.length c8,.string ⟨x7.toArray⟩] 66)) X.heap.size 66 #[.string ⟨x1.toArray⟩,.string ⟨x2.toArray⟩,.string ⟨x3.toArray⟩,.int .i64 nv,.slice A7 l7.length c7,.slice A8 l8.length c8,.string ⟨x7.toArray⟩]:=Blk.new _ _ _
     replace hst7:=hst7.alloc hz7 (.cells #[.string ⟨x1.toArray⟩,.string ⟨x2.toArray⟩,.string ⟨x3.toArray⟩,.int .i64 nv,.slice A7 l7.length c7,.slice A8 l8.length c8,.string ⟨x7.toArray⟩] 66)
     replace hbx7:=hbx7.alloc (.cells #[.string ⟨x1.toArray⟩,.string ⟨x2.toArray⟩,.string ⟨x3.toArray⟩,.int .i64 nv,.slice A7 l7.length c7,.slice A8 l8.length c8,.string ⟨x7.toArray⟩] 66)
     replace hmo7:=hmo7.alloc (.cells #[.string ⟨x1.toArray⟩,.string ⟨x2.toArray⟩,.string ⟨x3.toArray⟩,.int .i64 nv,.slice A7 l7.length c7,.slice A8 l8.length c8,.string ⟨x7.toArray⟩] 66)
     replace hlo77 : LstO (X.alloc (.cells #[.string ⟨x1.toArray⟩,.string ⟨x2.toArray⟩,.string ⟨x3.toArray⟩,.int .i64 nv,.slice A7 l7.length c7,.slice A8 l8.length c8,.string ⟨x7.toArray⟩] 66)) L (A7,l7,c7):=hlo77.alloc _
     replace hlo87 : LstO (X.alloc (.cells #[.string ⟨x1.toArray⟩,.string ⟨x2.toArray⟩,.string ⟨x3.toArray⟩,.int .i64 nv,.slice A7 l7.length c7,.slice A8 l8.length c8,.string ⟨x7.toArray⟩] 66)) L (A8,l8,c8):=hlo87.alloc _
     have hz8 : L ≤ (X.alloc (.cells #[.string ⟨x1.toArray⟩,.string ⟨x2.toArray⟩,.string ⟨x3.toArray⟩,.int .i64 nv,.slice A7 l7.length c7,.slice A8 l8.length c8,.string ⟨x7.toArray⟩] 66)).heap.size:=by simp; omega
     clear m0 m1 m2 m3 zb
     obtain ⟨m0,m1,m2,m3⟩ : _ ∧ _ ∧ _ ∧ _:=⟨hbx7.cell 0,hbx7.cell 1,hbx7.cell 2,hbx7.cell 3⟩
     simp only [List.getElem?_toArray,List.getElem?_cons_zero,List.getElem?_cons_succ] at m0 m1 m2 m3
     have zb:=hbx7.lt
     refine hK.out _ _ (trivial) (fun hHeld => ?_)
     clear hK K
     (try simp only [Act.put,List.setIfInBounds_toArray,List.set_cons_zero,List.set_cons_succ])
     refine wpAnyH_ready (rs:=[7]) (by kernel_rfl) (by simp) ?_
     refine AllReadyH.cons rfl (fun K hK => ?_) AllReadyH.nil
     refine step_app (lo:=L) (base:=L) (n:=ds.length) (xs:=ds.flatMap encD) _ rfl _ _ ty_doorm rfl hmo7.doors rfl (Row.lit hnb (Nat.le_trans hz7 (Nat.le_refl _)) rfl : Row _ L 7 _ 1 _) rfl rfl (by omega) (by omega) hz8 ?_
     intro A9 c9 w8 hown8 hg8 _
     have hown8' : w8.ownsRow L 66 7 (.slice A9 (ds.length + 1) c9) (ds.length + 1) (ds.flatMap encD ++ [.string ⟨x1.toArray⟩,.string ⟨x2.toArray⟩,.string ⟨x3.toArray⟩,.int .i64 nv,.slice A7 l7.length c7,.slice A8 l8.length c8,.string ⟨(x7).toArray⟩]):=hown8
     have HPU : Hid ((nb && u5 && u6) = true → MpA t b2 L (k + 1) (w8.setCell ⟨b2,1,none⟩ (.slice A9 (ds.length + 1) c9))):=Lib.hid (fun hu => by
      rw [Bool.and_eq_true,Bool.and_eq_true] at hu
      exact MpA.pushD hb2 HR.out HX1.out.symm HX2.out.symm HX3.out.symm (HNV.out.trans (by rw [HX4.out])) ((HU5.out hu.1.2).trans (by rw [HX5.out])) ((HU6.out hu.2).trans (by rw [HX6.out])) HX7.out.symm HT7.out HST.out HGL.out hbx7 hmo7 HE1.out HE2.out hlo77 hlo87 hg8 hown8')
     have HS8:=Lib.hid ((hst7.grown hg8 hz8 (fun q hq => (hmo7.doors.lt q hq).1)).set (p:=⟨b2,1,none⟩) (.inl (by simp)) (.slice A9 (ds.length + 1) c9))
     have hbx8:=hbx7.otherOf hg8 (own_kindOf hmo7.doors) (by decide)
     clear m0 m1 m2 m3 zb hown8 hown8' hg8 hbx7 hmo7 hlo77 hlo87 hst7 hnb
     obtain ⟨m0,m1,m2,m3⟩ : _ ∧ _ ∧ _ ∧ _:=⟨hbx8.cell 0,hbx8.cell 1,hbx8.cell 2,hbx8.cell 3⟩
     simp only [List.getElem?_toArray,List.getElem?_cons_zero,List.getElem?_cons_succ] at m0 m1 m2 m3
     have zb:=hbx8.lt
     have f1:=hbx8.thaw 1
     refine hK.out _ _ (trivial) (fun hHeld => ?_)
     clear hK K
     (try simp only [Act.put,List.setIfInBounds_toArray,List.set_cons_zero,List.set_cons_succ])
     refine wpAnyH_ready (rs:=[8]) (by kernel_rfl) (by simp) ?_
     refine AllReadyH.cons rfl (fun K hK => ?_) AllReadyH.nil
     go_simp
     refine hK.out _ _ (trivial) (fun hHeld => ?_)
     clear hK K
     (try simp only [Act.put,List.setIfInBounds_toArray,List.set_cons_zero,List.set_cons_succ])
     (refine wpAnyH_take (i:=9) (v:=?_) (by (simp only [List.getElem?_toArray,List.getElem?_cons_succ,List.getElem?_cons_zero]; rfl)) (by kernel_rfl) (by kernel_rfl) (by kernel_rfl) (by exact fun _ _ _ h => h) (Or.inl ⟨by rfl,?_⟩) (by assumption) ?_; (rotate_left 1; (intro w hSw; (try dsimp only at hSw); go_simp); (try with_reducible rfl)); (try simp only [Act.put,List.setIfInBounds_toArray,List.set_cons_zero,List.set_cons_succ]))
     refine wpAnyH_ready (rs:=[10]) (by kernel_rfl) (by simp) ?_
     refine AllReadyH.cons rfl (fun K hK => ?_) AllReadyH.nil
     go_simp
     clear m0 m1 m2 m3 zb f1
     refine hK.out _ _ (trivial) (fun hHeld => ?_)
     clear hK K
     (try simp only [Act.put,List.setIfInBounds_toArray,List.set_cons_zero,List.set_cons_succ])
     refine wpAnyH_done (by kernel_rfl) ?_ _
     cases nb with
     | false =>
      go_wp2_with fail
      exact GOOD.out _ _ HS8.out HOK.out HPU.out
     | true =>
      cases u5 with
      | false =>
       go_wp2_with fail
       exact GOOD.out _ _ HS8.out HOK.out HPU.out
      | true =>
       go_wp2_with fail
       exact GOOD.out _ _ HS8.out (by rw [HOK.out]; rfl) HPU.out
    case refine_2 =>
     go_simp
     have hnb : Blk (X.alloc (.cells #[.string ⟨x1.toArray⟩,.string ⟨x2.toArray⟩,.string ⟨x3.toArray⟩,.int .i64 nv,.slice A7 l7.length c7,.slice A8 l8.length c8,.string ⟨x7.toArray⟩] 66)) X.heap.size 66 #[.string ⟨x1.toArray⟩,.string ⟨x2.toArray⟩,.string ⟨x3.toArray⟩,.int .i64 nv,.slice A7 l7.length c7,.slice A8 l8.length c8,.string ⟨x7.toArray⟩]:=Blk.new _ _ _
     replace hst7:=hst7.alloc hz7 (.cells #[.string ⟨x1.toArray⟩,.string ⟨x2.toArray⟩,.string ⟨x3.toArray⟩,.int .i64 nv,.slice A7 l7.length c7,.slice A8 l8.length c8,.string ⟨x7.toArray⟩] 66)
     replace hbx7:=hbx7.alloc (.cells #[.string ⟨x1.toArray⟩,.string ⟨x2.toArray⟩,.string ⟨x3.toArray⟩,.int .i64 nv,.slice A7 l7.length c7,.slice A8 l8.length c8,.string ⟨x7.toArray⟩] 66)
     replace hmo7:=hmo7.alloc (.cells #[.string ⟨x1.toArray⟩,.string ⟨x2.toArray⟩,.string ⟨x3.toArray⟩,.int .i64 nv,.slice A7 l7.length c7,.slice A8 l8.length c8,.string ⟨x7.toArray⟩] 66)
     replace hlo77 : LstO (X.alloc (.cells #[.string ⟨x1.toArray⟩,.string ⟨x2.toArray⟩,.string ⟨x3.toArray⟩,.int .i64 nv,.slice A7 l7.length c7,.slice A8 l8.length c8,.string ⟨x7.toArray⟩] 66)) L (A7,l7,c7):=hlo77.alloc _
     replace hlo87 : LstO (X.alloc (.cells #[.string ⟨x1.toArray⟩,.string ⟨x2.toArray⟩,.string ⟨x3.toArray⟩,.int .i64 nv,.slice A7 l7.length c7,.slice A8 l8.length c8,.string ⟨x7.toArray⟩] 66)) L (A8,l8,c8):=hlo87.alloc _
     have hz8 : L ≤ (X.alloc (.cells #[.string ⟨x1.toArray⟩,.string ⟨x2.toArray⟩,.string ⟨x3.toArray⟩,.int .i64 nv,.slice A7 l7.length c7,.slice A8 l8.length c8,.string ⟨x7.toArray⟩] 66)).heap.size:=by simp; omega
     clear m0 m1 m2 m3 zb
     obtain ⟨m0,m1,m2,m3⟩ : _ ∧ _ ∧ _ ∧ _:=⟨hbx7.cell 0,hbx7.cell 1,hbx7.cell 2,hbx7.cell 3⟩
     simp only [List.getElem?_toArray,List.getElem?_cons_zero,List.getElem?_cons_succ] at m0 m1 m2 m3
     have zb:=hbx7.lt
     refine hK.out _ _ (trivial) (fun hHeld => ?_)
     clear hK K
     (try simp only [Act.put,List.setIfInBounds_toArray,List.set_cons_zero,List.set_cons_succ])
     refine wpAnyH_ready (rs:=[4]) (by kernel_rfl) (by simp) ?_
     refine AllReadyH.cons rfl (fun K hK => ?_) AllReadyH.nil
     go_simp
     refine hK.out _ _ (trivial) (fun hHeld => ?_)
     clear hK K
     (try simp only [Act.put,List.setIfInBounds_toArray,List.set_cons_zero,List.set_cons_succ])
     refine wpAnyH_ready (rs:=[7]) (by kernel_rfl) (by simp) ?_
     refine AllReadyH.cons rfl (fun K hK => ?_) AllReadyH.nil
     refine step_app (lo:=L) (base:=L) (n:=ds.length) (xs:=ds.flatMap encD) _ rfl _ _ ty_doorm rfl hmo7.doors rfl (Row.lit hnb (Nat.le_trans hz7 (Nat.le_refl _)) rfl : Row _ L 7 _ 1 _) rfl rfl (by omega) (by omega) hz8 ?_
     intro A9 c9 w8 hown8 hg8 _
     have hown8' : w8.ownsRow L 66 7 (.slice A9 (ds.length + 1) c9) (ds.length + 1) (ds.flatMap encD ++ [.string ⟨x1.toArray⟩,.string ⟨x2.toArray⟩,.string ⟨x3.toArray⟩,.int .i64 nv,.slice A7 l7.length c7,.slice A8 l8.length c8,.string ⟨(x7).toArray⟩]):=hown8
     have HPU : Hid ((nb && u5 && u6) = true → MpA t b2 L (k + 1) (w8.setCell ⟨b2,1,none⟩ (.slice A9 (ds.length + 1) c9))):=Lib.hid (fun hu => by
      rw [Bool.and_eq_true,Bool.and_eq_true] at hu
      exact MpA.pushD hb2 HR.out HX1.out.symm HX2.out.symm HX3.out.symm (HNV.out.trans (by rw [HX4.out])) ((HU5.out hu.1.2).trans (by rw [HX5.out])) ((HU6.out hu.2).trans (by rw [HX6.out])) HX7.out.symm HT7.out HST.out HGL.out hbx7 hmo7 HE1.out HE2.out hlo77 hlo87 hg8 hown8')
     have HS8:=Lib.hid ((hst7.grown hg8 hz8 (fun q hq => (hmo7.doors.lt q hq).1)).set (p:=⟨b2,1,none⟩) (.inl (by simp)) (.slice A9 (ds.length + 1) c9))
     have hbx8:=hbx7.otherOf hg8 (own_kindOf hmo7.doors) (by decide)
     clear m0 m1 m2 m3 zb hown8 hown8' hg8 hbx7 hmo7 hlo77 hlo87 hst7 hnb
     obtain ⟨m0,m1,m2,m3⟩ : _ ∧ _ ∧ _ ∧ _:=⟨hbx8.cell 0,hbx8.cell 1,hbx8.cell 2,hbx8.cell 3⟩
     simp only [List.getElem?_toArray,List.getElem?_cons_zero,List.getElem?_cons_succ] at m0 m1 m2 m3
     have zb:=hbx8.lt
     have f1:=hbx8.thaw 1
     refine hK.out _ _ (trivial) (fun hHeld => ?_)
     clear hK K
     (try simp only [Act.put,List.setIfInBounds_toArray,List.set_cons_zero,List.set_cons_succ])
     refine wpAnyH_ready (rs:=[8]) (by kernel_rfl) (by simp) ?_
     refine AllReadyH.cons rfl (fun K hK => ?_) AllReadyH.nil
     go_simp
     refine hK.out _ _ (trivial) (fun hHeld => ?_)
     clear hK K
     (try simp only [Act.put,List.setIfInBounds_toArray,List.set_cons_zero,List.set_cons_succ])
     (refine wpAnyH_take (i:=9) (v:=?_) (by (simp only [List.getElem?_toArray,List.getElem?_cons_succ,List.getElem?_cons_zero]; rfl)) (by kernel_rfl) (by kernel_rfl) (by kernel_rfl) (by exact fun _ _ _ h => h) (Or.inl ⟨by rfl,?_⟩) (by assumption) ?_; (rotate_left 1; (intro w hSw; (try dsimp only at hSw); go_simp); (try with_reducible rfl)); (try simp only [Act.put,List.setIfInBounds_toArray,List.set_cons_zero,List.set_cons_succ]))
     refine wpAnyH_ready (rs:=[10]) (by kernel_rfl) (by simp) ?_
     refine AllReadyH.cons rfl (fun K hK => ?_) AllReadyH.nil
     go_simp
     clear m0 m1 m2 m3 zb f1
     refine hK.out _ _ (trivial) (fun hHeld => ?_)
     clear hK K
     (try simp only [Act.put,List.setIfInBounds_toArray,List.set_cons_zero,List.set_cons_succ])
     refine wpAnyH_done (by kernel_rfl) ?_ _
     cases nb with
     | false =>
      go_wp2_with fail
      exact GOOD.out _ _ HS8.out HOK.out HPU.out
     | true =>
      cases u5 with
      | false =>
       go_wp2_with fail
       exact GOOD.out _ _ HS8.out HOK.out HPU.out
      | true =>
       go_wp2_with fail
       exact GOOD.out _ _ HS8.out (by rw [HOK.out]; rfl) HPU.out
   case refine_2 =>
    go_simp
    have hnb : Blk (X.alloc (.cells #[.string ⟨x1.toArray⟩,.string ⟨x2.toArray⟩,.string ⟨x3.toArray⟩,.int .i64 nv,.slice A7 l7.length c7,.slice A8 l8.length c8,.string ⟨x7.toArray⟩] 66)) X.heap.size 66 #[.string ⟨x1.toArray⟩,.string ⟨x2.toArray⟩,.string ⟨x3.toArray⟩,.int .i64 nv,.slice A7 l7.length c7,.slice A8 l8.length c8,.string ⟨x7.toArray⟩]:=Blk.new _ _ _
    replace hst7:=hst7.alloc hz7 (.cells #[.string ⟨x1.toArray⟩,.string ⟨x2.toArray⟩,.string ⟨x3.toArray⟩,.int .i64 nv,.slice A7 l7.length c7,.slice A8 l8.length c8,.string ⟨x7.toArray⟩] 66)
    replace hbx7:=hbx7.alloc (.cells #[.string ⟨x1.toArray⟩,.string ⟨x2.toArray⟩,.string ⟨x3.toArray⟩,.int .i64 nv,.slice A7 l7.length c7,.slice A8 l8.length c8,.string ⟨x7.toArray⟩] 66)
    replace hmo7:=hmo7.alloc (.cells #[.string ⟨x1.toArray⟩,.string ⟨x2.toArray⟩,.string ⟨x3.toArray⟩,.int .i64 nv,.slice A7 l7.length c7,.slice A8 l8.length c8,.string ⟨x7.toArray⟩] 66)
    replace hlo77 : LstO (X.alloc (.cells #[.string ⟨x1.toArray⟩,.string ⟨x2.toArray⟩,.string ⟨x3.toArray⟩,.int .i64 nv,.slice A7 l7.length c7,.slice A8 l8.length c8,.string ⟨x7.toArray⟩] 66)) L (A7,l7,c7):=hlo77.alloc _
    replace hlo87 : LstO (X.alloc (.cells #[.string ⟨x1.toArray⟩,.string ⟨x2.toArray⟩,.string ⟨x3.toArray⟩,.int .i64 nv,.slice A7 l7.length c7,.slice A8 l8.length c8,.string ⟨x7.toArray⟩] 66)) L (A8,l8,c8):=hlo87.alloc _
    have hz8 : L ≤ (X.alloc (.cells #[.string ⟨x1.toArray⟩,.string ⟨x2.toArray⟩,.string ⟨x3.toArray⟩,.int .i64 nv,.slice A7 l7.length c7,.slice A8 l8.length c8,.string ⟨x7.toArray⟩] 66)).heap.size:=by simp; omega
    clear m0 m1 m2 m3 zb
    obtain ⟨m0,m1,m2,m3⟩ : _ ∧ _ ∧ _ ∧ _:=⟨hbx7.cell 0,hbx7.cell 1,hbx7.cell 2,hbx7.cell 3⟩
    simp only [List.getElem?_toArray,List.getElem?_cons_zero,List.getElem?_cons_succ] at m0 m1 m2 m3
    have zb:=hbx7.lt
    refine hK.out _ _ (trivial) (fun hHeld => ?_)
    clear hK K
    (try simp only [Act.put,List.setIfInBounds_toArray,List.set_cons_zero,List.set_cons_succ])
    refine wpAnyH_ready (rs:=[2]) (by kernel_rfl) (by simp) ?_
    refine AllReadyH.cons rfl (fun K hK => ?_) AllReadyH.nil
    go_simp
    refine hK.out _ _ (trivial) (fun hHeld => ?_)
    clear hK K
    (try simp only [Act.put,List.setIfInBounds_toArray,List.set_cons_zero,List.set_cons_succ])
    (refine wpAnyH_take (i:=3) (v:=?_) (by (simp only [List.getElem?_toArray,List.getElem?_cons_succ,List.getElem?_cons_zero]; rfl)) (by kernel_rfl) (by kernel_rfl) (by kernel_rfl) (by exact fun _ _ _ h => h) (Or.inl ⟨by rfl,?_⟩) (by assumption) ?_; (rotate_left 1; (intro w hSw; (try dsimp only at hSw); go_simp); (try with_reducible rfl)); (try simp only [Act.put,List.setIfInBounds_toArray,List.set_cons_zero,List.set_cons_succ]))
    refine wpAnyH_ready (rs:=[4]) (by kernel_rfl) (by simp) ?_
    refine AllReadyH.cons rfl (fun K hK => ?_) AllReadyH.nil
    go_simp
    refine hK.out _ _ (trivial) (fun hHeld => ?_)
    clear hK K
    (try simp only [Act.put,List.setIfInBounds_toArray,List.set_cons_zero,List.set_cons_succ])
    refine wpAnyH_ready (rs:=[7]) (by kernel_rfl) (by simp) ?_
    refine AllReadyH.cons rfl (fun K hK => ?_) AllReadyH.nil
    refine step_app (lo:=L) (base:=L) (n:=ds.length) (xs:=ds.flatMap encD) _ rfl _ _ ty_doorm rfl hmo7.doors rfl (Row.lit hnb (Nat.le_trans hz7 (Nat.le_refl _)) rfl : Row _ L 7 _ 1 _) rfl rfl (by omega) (by omega) hz8 ?_
    intro A9 c9 w8 hown8 hg8 _
    have hown8' : w8.ownsRow L 66 7 (.slice A9 (ds.length + 1) c9) (ds.length + 1) (ds.flatMap encD ++ [.string ⟨x1.toArray⟩,.string ⟨x2.toArray⟩,.string ⟨x3.toArray⟩,.int .i64 nv,.slice A7 l7.length c7,.slice A8 l8.length c8,.string ⟨(x7).toArray⟩]):=hown8
    have HPU : Hid ((nb && u5 && u6) = true → MpA t b2 L (k + 1) (w8.setCell ⟨b2,1,none⟩ (.slice A9 (ds.length + 1) c9))):=Lib.hid (fun hu => by
     rw [Bool.and_eq_true,Bool.and_eq_true] at hu
     exact MpA.pushD hb2 HR.out HX1.out.symm HX2.out.symm HX3.out.symm (HNV.out.trans (by rw [HX4.out])) ((HU5.out hu.1.2).trans (by rw [HX5.out])) ((HU6.out hu.2).trans (by rw [HX6.out])) HX7.out.symm HT7.out HST.out HGL.out hbx7 hmo7 HE1.out HE2.out hlo77 hlo87 hg8 hown8')
    have HS8:=Lib.hid ((hst7.grown hg8 hz8 (fun q hq => (hmo7.doors.lt q hq).1)).set (p:=⟨b2,1,none⟩) (.inl (by simp)) (.slice A9 (ds.length + 1) c9))
    have hbx8:=hbx7.otherOf hg8 (own_kindOf hmo7.doors) (by decide)
    clear m0 m1 m2 m3 zb hown8 hown8' hg8 hbx7 hmo7 hlo77 hlo87 hst7 hnb
    obtain ⟨m0,m1,m2,m3⟩ : _ ∧ _ ∧ _ ∧ _:=⟨hbx8.cell 0,hbx8.cell 1,hbx8.cell 2,hbx8.cell 3⟩
    simp only [List.getElem?_toArray,List.getElem?_cons_zero,List.getElem?_cons_succ] at m0 m1 m2 m3
    have zb:=hbx8.lt
    have f1:=hbx8.thaw 1
    refine hK.out _ _ (trivial) (fun hHeld => ?_)
    clear hK K
    (try simp only [Act.put,List.setIfInBounds_toArray,List.set_cons_zero,List.set_cons_succ])
    refine wpAnyH_ready (rs:=[8]) (by kernel_rfl) (by simp) ?_
    refine AllReadyH.cons rfl (fun K hK => ?_) AllReadyH.nil
    go_simp
    refine hK.out _ _ (trivial) (fun hHeld => ?_)
    clear hK K
    (try simp only [Act.put,List.setIfInBounds_toArray,List.set_cons_zero,List.set_cons_succ])
    (refine wpAnyH_take (i:=9) (v:=?_) (by (simp only [List.getElem?_toArray,List.getElem?_cons_succ,List.getElem?_cons_zero]; rfl)) (by kernel_rfl) (by kernel_rfl) (by kernel_rfl) (by exact fun _ _ _ h => h) (Or.inl ⟨by rfl,?_⟩) (by assumption) ?_; (rotate_left 1; (intro w hSw; (try dsimp only at hSw); go_simp); (try with_reducible rfl)); (try simp only [Act.put,List.setIfInBounds_toArray,List.set_cons_zero,List.set_cons_succ]))
    refine wpAnyH_ready (rs:=[10]) (by kernel_rfl) (by simp) ?_
    refine AllReadyH.cons rfl (fun K hK => ?_) AllReadyH.nil
    go_simp
    clear m0 m1 m2 m3 zb f1
    refine hK.out _ _ (trivial) (fun hHeld => ?_)
    clear hK K
    (try simp only [Act.put,List.setIfInBounds_toArray,List.set_cons_zero,List.set_cons_succ])
    refine wpAnyH_done (by kernel_rfl) ?_ _
    cases nb with
    | false =>
     go_wp2_with fail
     exact GOOD.out _ _ HS8.out HOK.out HPU.out
    | true =>
     cases u5 with
     | false =>
      go_wp2_with fail
      exact GOOD.out _ _ HS8.out HOK.out HPU.out
     | true =>
      go_wp2_with fail
      exact GOOD.out _ _ HS8.out (by rw [HOK.out]; rfl) HPU.out
end Go.Proofs.YtijdbbnnkogkjaaGreatDoor
