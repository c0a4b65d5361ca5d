/- Texts of this seat, laid together: Nz. -/
import Derived.Handy
import Derived.Test.YtijdbbnnkogkjaaGreatDoorBn45
import Derived.Test.YtijdbbnnkogkjaaGreatDoorBn21
import Derived.Test.YtijdbbnnkogkjaaGreatDoorBn52
import Derived.Test.YtijdbbnnkogkjaaGreatDoorBn29
import Derived.Test.YtijdbbnnkogkjaaGreatDoorBn54
/- The walks of route.Read and splitref1.MapRead: both hand out the same. -/
namespace Go.Proofs.YtijdbbnnkogkjaaGreatDoor
set_option linter.unusedVariables false
set_option linter.unusedSimpArgs false
open Go.RowKit Go.Sort

theorem readM_stop {t : List UInt8} (hb : ¬ 200000 < t.length) {i : Nat} (h : stopL t (okM t) = some i) : readM t = (MpS.no,(i : Int),9):=by
 unfold readM; rw [if_neg hb,h]
theorem readM_nil {t : List UInt8} (h : t = []) : readM t = (MpS.no,0,9):=by
 subst h; rfl
theorem readM_bad {t : List UInt8} (hb : ¬ 200000 < t.length) (h : stopL t (okM t) = none) (hn : t ≠ []) {rs : List RoomE} {ds : List DoorE} {st gl : List UInt8} (e1 : rs.map RoomE.er = (mpR t (linesL t).length).rs) (e2 : ds.map DoorE.er = (mpR t (linesL t).length).ds) (e3 : st = (mpR t (linesL t).length).st) (e4 : gl = (mpR t (linesL t).length).gl) (h0 : mapE rs ds st gl ≠ 0) : readM t = (MpS.no,0,mapE rs ds st gl):=by
 unfold readM; rw [if_neg hb,h,if_neg hn,← e1,← e2,← e3,← e4,mapE_er,if_pos h0]
theorem readM_ok {t : List UInt8} (hb : ¬ 200000 < t.length) (h : stopL t (okM t) = none) (hn : t ≠ []) {rs : List RoomE} {ds : List DoorE} {st gl : List UInt8} (e1 : rs.map RoomE.er = (mpR t (linesL t).length).rs) (e2 : ds.map DoorE.er = (mpR t (linesL t).length).ds) (e3 : st = (mpR t (linesL t).length).st) (e4 : gl = (mpR t (linesL t).length).gl) (h0 : mapE rs ds st gl = 0) : readM t = (⟨st,gl,rs.map RoomE.er,ds.map DoorE.er⟩,0,0):=by
 unfold readM; rw [if_neg hb,h,if_neg hn,if_neg (by rw [← e1,← e2,← e3,← e4,mapE_er,h0]; simp),e1,e2,e3,e4]
def MRdPost (w : World) (t : List UInt8) (e : Ending) (w' : World) : Prop :=
 ∃ (A : Option Addr) (ca : Nat) (rs : List RoomE) (D : Option Addr) (cd : Nat) (ds : List DoorE) (st gl : List UInt8) (i er : Int),e = .returned (.tuple #[.agg #[.slice A rs.length ca,.slice D ds.length cd,.string ⟨st.toArray⟩,.string ⟨gl.toArray⟩],.int .i64 i,.int .i64 er]) ∧ readM t = (⟨st,gl,rs.map RoomE.er,ds.map DoorE.er⟩,i,er) ∧ MapW w' w.heap.size A rs D ds ∧ st.length ≤ 1000 ∧ gl.length ≤ 1000 ∧ Below w.heap.size w w'
theorem same_readM {r : List UInt8} {st1 gl1 st2 gl2 : List UInt8} {a1 a2 : List RoomE} {b1 b2 : List DoorE} {i1 i2 e1 e2 : Int} (h1 : readM r = (⟨st1,gl1,a1,b1⟩,i1,e1)) (h2 : readM r = (⟨st2,gl2,a2,b2⟩,i2,e2)) : st2 = st1 ∧ gl2 = gl1 ∧ a1 = a2 ∧ b1 = b2 ∧ i2 = i1 ∧ e2 = e1:=by
 rw [h1] at h2
 injection h2 with h3 h4
 injection h3 with g1 g2 g3 g4
 injection h4 with g5 g6
 exact ⟨g1.symm,g2.symm,g3,g4,g5.symm,g6.symm⟩
theorem mapW_nil (w : World) (lo : Nat) : MapW w lo none [] none [] :=
 ⟨Row.none_ _ _ _ _,Row.none_ _ _ _ _,fun r hr => by simp at hr,fun r hr => by simp at hr,fun r hr => by simp at hr,⟨by simp,by simp,fun r hr => by simp at hr,fun r hr => by simp at hr,fun r hr => by simp at hr,fun r hr => by simp at hr,fun r hr => by simp at hr,fun r hr => by simp at hr⟩⟩
theorem res_rd (fn : Func) (tmps : Array Value) (w : World) (m : Nat) (a b u v : Value) (c d : List UInt8) (X Y : Option Addr) (xn xc yn yc : Nat) (ha : a = .slice X xn xc) (hb : b = .slice Y yn yc) (e : fn.results = #[.cell 2 29,.tmp 3,.tmp 4]) (hx : tmps.getD 2 undef = .pointer (some ⟨m,0,none⟩)) (hu : tmps.getD 3 undef = u) (hv : tmps.getD 4 undef = v) (f0 : w.cell? ⟨m,0,none⟩ = some a) (f1 : w.cell? ⟨m,1,none⟩ = some b) (f2 : w.cell? ⟨m,2,none⟩ = some (.string ⟨c.toArray⟩)) (f3 : w.cell? ⟨m,3,none⟩ = some (.string ⟨d.toArray⟩)) :
  (results fn tmps).run Tryz.prog w = .ok (.tuple #[.agg #[a,b,.string ⟨c.toArray⟩,.string ⟨d.toArray⟩],u,v]) w:=by
 have hx' : tmps[2]?.getD undef = .pointer (some ⟨m,0,none⟩):=by simpa using hx
 have hu' : tmps[3]?.getD undef = u:=by simpa using hu
 have hv' : tmps[4]?.getD undef = v:=by simpa using hv
 subst ha hb
 simp [results,e,hx',hu',hv',go_sem,f0,f1,f2,f3]
structure MRes (w W : World) (m : Nat) (box : Array Value) : Prop where
  b : Blk W m 29 box
  hm : w.heap.size ≤ m
  k : Below w.heap.size w W
theorem MRes.below {w W W' : World} {m : Nat} {box : Array Value} (h : MRes w W m box) (hb : Below W.heap.size W W') : MRes w W' m box:=⟨h.b.below hb,h.hm,below_up h.k hb⟩
theorem MRes.stays {w W W' : World} {m L : Nat} {box : Array Value} {bs : List Nat} (h : MRes w W m box) (hb : Stays L bs W W') (hl : m < L) (hn : m ∉ bs) (hB : w.heap.size ≤ L) (hx : ∀ x ∈ bs,w.heap.size ≤ x) : MRes w W' m box:=⟨h.b.stays hb hl hn,h.hm,h.k.trans (hb.below hB hx)⟩
def z4R : Array Value:=#[.slice none 0 0,.slice none 0 0,.string ⟨#[]⟩,.string ⟨#[]⟩]
theorem MRes.put {w W : World} {m : Nat} (h : MRes w W m z4R) (a b c d : Value) : MRes w ((((W.setCell ⟨m,0,none⟩ a).setCell ⟨m,1,none⟩ b).setCell ⟨m,2,none⟩ c).setCell ⟨m,3,none⟩ d) m #[a,b,c,d] :=
 ⟨by simpa [z4R] using (((h.b.poke 0 a).poke 1 b).poke 2 c).poke 3 d,h.hm,(((h.k.setCell (p:=⟨m,0,none⟩) h.hm a).setCell (p:=⟨m,1,none⟩) h.hm b).setCell (p:=⟨m,2,none⟩) h.hm c).setCell (p:=⟨m,3,none⟩) h.hm d⟩
theorem Blk.cells4 {w : World} {g : Nat} {t : TypeId} {a b c d : Value} (k : Blk w g t #[a,b,c,d]) : w.cell? ⟨g,0,none⟩ = some a ∧ w.cell? ⟨g,1,none⟩ = some b ∧ w.cell? ⟨g,2,none⟩ = some c ∧ w.cell? ⟨g,3,none⟩ = some d:=⟨by simpa using k.cell 0,by simpa using k.cell 1,by simpa using k.cell 2,by simpa using k.cell 3⟩
set_option maxHeartbeats 8000000 in
set_option maxRecDepth 100000 in
theorem mRead_any (t : List UInt8) (w : World) (ht : t.length ≤ 900) (hE : Env w) :
  Calls Tryz.prog 22 #[encStr t] w (MRdPost w t):=by
 have EARLY : Hid (∀ i e W',readM t = (MpS.no,i,e) → Below w.heap.size w W' → MRdPost w t (.returned (.tuple #[.agg #[.slice none 0 0,.slice none 0 0,.string ⟨#[]⟩,.string ⟨#[]⟩],.int .i64 i,.int .i64 e])) W'):=Lib.hid (fun i e W' h hb => ⟨none,0,[],none,0,[],[],[],i,e,rfl,h,mapW_nil _ _,by simp,by simp,hb⟩)
 have LATE : Hid (∀ A ca rs D cd ds st gl W',readM t = (⟨st,gl,rs.map RoomE.er,ds.map DoorE.er⟩,0,0) → MapW W' w.heap.size A rs D ds → st.length ≤ 1000 → gl.length ≤ 1000 → Below w.heap.size w W' → MRdPost w t (.returned (.tuple #[.agg #[.slice A rs.length ca,.slice D ds.length cd,.string ⟨st.toArray⟩,.string ⟨gl.toArray⟩],.int .i64 0,.int .i64 0])) W'):=Lib.hid (fun A ca rs D cd ds st gl W' h h2 h3 h4 hb => ⟨A,ca,rs,D,cd,ds,st,gl,0,0,rfl,h,h2,h3,h4,hb⟩)
 generalize hP : MRdPost w t = Post at *
 clear hP
 have hEB:=EnvB.of hE
 have HBIG : Hid (¬ 200000 < t.length):=Lib.hid (by omega)
 have hd : decide ((200000 : Int) < (t.length : Int)) = false:=by simp; omega
 have hmr : MRes w (w.alloc (.cells z4R 29)) w.heap.size z4R:=⟨Blk.new _ _ _,Nat.le_refl _,(Below.refl _ _).alloc (Nat.le_refl _) _⟩
 have hz0 : (w.alloc (.cells z4R 29)).heap.size = w.heap.size + 1:=by simp
 go_enter Tryz.func22,Tryz.ntmps22
 go_upto_region 1 with (fail)
 rw [show (#[.slice none 0 0,.slice none 0 0,.string ⟨#[]⟩,.string ⟨#[]⟩] : Array Value) = z4R from rfl]
 generalize w.alloc (.cells z4R 29) = w0 at *
 obtain ⟨m,hm⟩ : ∃ m,m = w.heap.size:=⟨_,rfl⟩
 rw [← hm] at hmr hz0
 simp only [← hm]
 have hml : w.heap.size ≤ m:=by omega
 have hmu : m ≤ w.heap.size:=by omega
 clear hm
 go_upto_region 5 with (fail)
 have hmr:=hmr.below ((Below.refl _ _).alloc (Nat.le_refl _) (.cells z4R 29))
 have kM : Blk (w0.alloc (.cells z4R 29)) w0.heap.size 29 z4R:=Blk.new _ _ _
 have hz1 : (w0.alloc (.cells z4R 29)).heap.size = m + 1 + 1:=by simp; omega
 rw [show (#[.slice none 0 0,.slice none 0 0,.string ⟨#[]⟩,.string ⟨#[]⟩] : Array Value) = z4R from rfl]
 rw [hz0] at kM
 generalize w0.alloc (.cells z4R 29) = w1 at *
 have hmr:=hmr.below ((Below.refl _ _).alloc (Nat.le_refl _) (.cells #[.int .i64 0] 3))
 have kV : Blk (w1.alloc (.cells #[.int .i64 0] 3)) w1.heap.size 3 #[.int .i64 0]:=Blk.new _ _ _
 have kM:=kM.alloc (.cells #[.int .i64 0] 3)
 rw [hz1] at kV
 generalize w1.alloc (.cells #[.int .i64 0] 3) = w2 at *
 obtain ⟨b2,hb2⟩ : ∃ b2,b2 = m + 1:=⟨_,rfl⟩
 rw [← hb2] at kM kV
 simp only [← hb2]
 obtain ⟨b1,hb1⟩ : ∃ b1,b1 = b2 + 1:=⟨_,rfl⟩
 rw [← hb1] at kV
 simp only [← hb1]
 have hb2l : m < b2:=by omega
 have hb1l : b2 < b1:=by omega
 clear hb1 hb2 hz1 hz0
 have hEB2:=hEB.below hmr.k
 have hsx:=hmr.k.size
 go_wp2_with fail
 refine (eachMpP_any b1 b2 t w2 w.heap.size (okM t) (MpRd t 3 cntV b1 b2) (by omega) hEB2 (by omega) ?_ ?_ ?_ ?_).mono ?_
 ·intro x hx2
  simp only [List.mem_cons,List.not_mem_nil,or_false] at hx2
  rcases hx2 with rfl | rfl
  ·exact ⟨by omega,kV.lt⟩
  ·exact ⟨by omega,kM.lt⟩
 ·intro L W h1 h2 h3
  exact ⟨by have:=kV.lt; omega,by have:=kM.lt; omega,by omega,kV.below h3,MpA.start (kM.below h3)⟩
 ·intro L k W h4
  exact h4.below (Below.refl _ _).drew
 ·intro L k W hk h1 h2 h3 h4
  exact readC_any t b1 b2 w.heap.size L k W (by omega) hk h2 h3 (by omega) (by omega) (by omega) h4
 rintro e w3 ⟨hst,rfl,hR⟩
 have hmlt:=hmr.b.lt
 have hmr:=hmr.stays hst (by omega) (by simp; omega) (by omega) (fun x hx2 => by
  simp only [List.mem_cons,List.not_mem_nil,or_false] at hx2
  rcases hx2 with rfl | rfl <;> omega)
 clear kV kM hEB2 hst hmlt hsx
 cases hs : stopL t (okM t) with
 | some i =>
  have HV:=Lib.hid (readM_stop HBIG.out hs)
  clear hR hs
  simp only [eachV]
  have q0:=hmr.b.cells4.1
  have q1:=hmr.b.cells4.2.1
  have q2:=hmr.b.cells4.2.2.1
  have q3:=hmr.b.cells4.2.2.2
  have f0:=hmr.b.thaw 0
  have f1:=hmr.b.thaw 1
  have f2:=hmr.b.thaw 2
  have f3:=hmr.b.thaw 3
  have zr:=hmr.b.lt
  have hp:=hmr.put (.slice none 0 0) (.slice none 0 0) (.string ⟨#[]⟩) (.string ⟨#[]⟩)
  have hz:=hp.b
  have HP:=Lib.hid hp.k
  clear hmr hp
  go_wp2_with fail
  refine bodyPost_ret (res_rd _ _ _ m (.slice none 0 0) (.slice none 0 0) _ _ [] [] none none 0 0 0 0 rfl rfl (by kernel_rfl) rfl rfl rfl (hz.cell 0) (hz.cell 1) (hz.cell 2) (hz.cell 3)) rfl ?_
  exact EARLY.out i 9 _ HV.out HP.out
 | none =>
  obtain ⟨L,hL,hR⟩:=hR hs
  have HS:=Lib.hid hs
  simp only [eachV]
  obtain ⟨h1L,h2L,hne,hcnt,A,ca,rs,D,cd,ds,hbx,hmo,e1,e2⟩:=hR
  clear hs
  have hll:=(linesL_le t).1
  have hmW:=Lib.hid (hmo.toWS (mapS_read (by omega) (by have:=List.count_le_length (a:=(10 : UInt8)) (l:=t); omega) (by have:=List.count_le_length (a:=(44 : UInt8)) (l:=t); omega) (Nat.le_refl _) e1 e2))
  obtain ⟨st,hst⟩ : ∃ st,st = (mpR t (linesL t).length).st:=⟨_,rfl⟩
  obtain ⟨gl,hgl⟩ : ∃ gl,gl = (mpR t (linesL t).length).gl:=⟨_,rfl⟩
  have hsz:=mpR_sz t (linesL t).length (Nat.le_refl _)
  rw [← hst,← hgl] at hbx hsz
  have hstl : st.length ≤ 1000:=by have:=hsz.2.2.1; omega
  have hgll : gl.length ≤ 1000:=by have:=hsz.2.2.2; omega
  clear hsz hmo
  have HVB : Hid (t ≠ [] → mapE rs ds st gl ≠ 0 → readM t = (MpS.no,0,mapE rs ds st gl)):=Lib.hid (fun hn => readM_bad HBIG.out HS.out hn e1 e2 hst hgl)
  have HVO : Hid (t ≠ [] → mapE rs ds st gl = 0 → readM t = (⟨st,gl,rs.map RoomE.er,ds.map DoorE.er⟩,0,0)):=Lib.hid (fun hn => readM_ok HBIG.out HS.out hn e1 e2 hst hgl)
  clear e1 e2 hst hgl HS
  have q0:=hmr.b.cells4.1
  have q1:=hmr.b.cells4.2.1
  have q2:=hmr.b.cells4.2.2.1
  have q3:=hmr.b.cells4.2.2.2
  have f0:=hmr.b.thaw 0
  have f1:=hmr.b.thaw 1
  have f2:=hmr.b.thaw 2
  have f3:=hmr.b.thaw 3
  have zr:=hmr.b.lt
  by_cases hn : t = []
  ·have HV:=Lib.hid (readM_nil hn)
   have c9 : w3.cell? ⟨b1,0,none⟩ = some (.int .i64 0):=by rw [hn] at hcnt; simpa [cntV,linesL_nil] using hcnt.cell 0
   have z9:=hcnt.lt
   have hp:=hmr.put (.slice none 0 0) (.slice none 0 0) (.string ⟨#[]⟩) (.string ⟨#[]⟩)
   have hz:=hp.b
   have HP:=Lib.hid hp.k
   clear hmr hp HVB HVO hmW hbx hcnt hll
   go_wp2_with fail
   refine bodyPost_ret (res_rd _ _ _ m (.slice none 0 0) (.slice none 0 0) _ _ [] [] none none 0 0 0 0 rfl rfl (by kernel_rfl) rfl rfl rfl (hz.cell 0) (hz.cell 1) (hz.cell 2) (hz.cell 3)) rfl ?_
   exact EARLY.out 0 9 _ HV.out HP.out
  ·have HN:=Lib.hid hn
   have hlp : 0 < (linesL t).length:=List.length_pos_iff.2 (linesL_ne hn)
   have c9 : w3.cell? ⟨b1,0,none⟩ = some (.int .i64 ((linesL t).length : Int)):=by simpa [cntV] using hcnt.cell 0
   have z9:=hcnt.lt
   have d9 : (((linesL t).length : Int) == 0) = false:=by rw [beq_eq_false_iff_ne]; omega
   generalize (linesL t).length = nl at *
   have g0:=hbx.cells4.1
   have g1:=hbx.cells4.2.1
   have g2:=hbx.cells4.2.2.1
   have g3:=hbx.cells4.2.2.2
   have zb:=hbx.lt
   have hck:=checkMap_any _ ca cd A rs D ds st gl w3 hmW.out
   unfold mapV at hck
   simp only [encStr] at hck
   clear hn hcnt hll
   go_wp2_with fail
   refine hck.mono ?_
   clear hck
   rintro e w4 ⟨rfl,hb⟩
   replace hbx:=hbx.below hb
   replace hmr:=hmr.below hb
   have hmW4:=Lib.hid (hmW.out.below hb)
   clear hb hmW q0 q1 q2 q3 f0 f1 f2 f3 zr g0 g1 g2 g3 zb
   have q0:=hmr.b.cells4.1
   have q1:=hmr.b.cells4.2.1
   have q2:=hmr.b.cells4.2.2.1
   have q3:=hmr.b.cells4.2.2.2
   have f0:=hmr.b.thaw 0
   have f1:=hmr.b.thaw 1
   have f2:=hmr.b.thaw 2
   have f3:=hmr.b.thaw 3
   have zr:=hmr.b.lt
   have g0:=hbx.cells4.1
   have g1:=hbx.cells4.2.1
   have g2:=hbx.cells4.2.2.1
   have g3:=hbx.cells4.2.2.2
   have zb:=hbx.lt
   obtain ⟨me,hme⟩ : ∃ me,me = mapE rs ds st gl:=⟨_,rfl⟩
   rw [← hme] at HVB HVO ⊢
   clear hme
   by_cases h0 : me = 0
   ·have HV:=Lib.hid (HVO.out HN.out h0)
    subst h0
    have hp:=hmr.put (.slice A rs.length ca) (.slice D ds.length cd) (.string ⟨st.toArray⟩) (.string ⟨gl.toArray⟩)
    have hz:=hp.b
    have HP:=Lib.hid hp.k
    have hmL : m < L:=by omega
    have HW:=Lib.hid (((((hmW4.out.setLow hmL 0 (.slice A rs.length ca)).setLow hmL 1 (.slice D ds.length cd)).setLow hmL 2 (.string ⟨st.toArray⟩)).setLow hmL 3 (.string ⟨gl.toArray⟩)).weak (show w.heap.size ≤ L by omega))
    clear hmr hp HVB HVO hbx
    go_wp2_with fail
    refine bodyPost_ret (res_rd _ _ _ m (.slice A rs.length ca) (.slice D ds.length cd) _ _ st gl A D rs.length ca ds.length cd rfl rfl (by kernel_rfl) rfl rfl rfl (hz.cell 0) (hz.cell 1) (hz.cell 2) (hz.cell 3)) rfl ?_
    exact LATE.out A ca rs D cd ds st gl _ HV.out HW.out hstl hgll HP.out
   ·have HV:=Lib.hid (HVB.out HN.out h0)
    have d0 : (me != 0) = true:=by simpa using h0
    have hp:=hmr.put (.slice none 0 0) (.slice none 0 0) (.string ⟨#[]⟩) (.string ⟨#[]⟩)
    have hz:=hp.b
    have HP:=Lib.hid hp.k
    clear hmr hp HVB HVO hbx h0 hmW4
    go_wp2_with fail
    refine bodyPost_ret (res_rd _ _ _ m (.slice none 0 0) (.slice none 0 0) _ _ [] [] none none 0 0 0 0 rfl rfl (by kernel_rfl) rfl rfl rfl (hz.cell 0) (hz.cell 1) (hz.cell 2) (hz.cell 3)) rfl ?_
    exact EARLY.out 0 me _ HV.out HP.out
end Go.Proofs.YtijdbbnnkogkjaaGreatDoor
