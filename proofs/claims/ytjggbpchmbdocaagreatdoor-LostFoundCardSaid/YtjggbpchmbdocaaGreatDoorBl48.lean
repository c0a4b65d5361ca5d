/- Texts of this seat, laid together: MpE. -/
import Derived.Test.YtjggbpchmbdocaaGreatDoorBl46
import Derived.Test.YtjggbpchmbdocaaGreatDoorBl38
import Derived.Test.YtjggbpchmbdocaaGreatDoorBl47
import Derived.Test.YtjggbpchmbdocaaGreatDoorBl23
/- The walks of mapped and routed. -/
namespace Go.Proofs.YtjggbpchmbdocaaGreatDoor
set_option linter.unusedVariables false
set_option linter.unusedSimpArgs false
open Go.RowKit Go.Sort

def MpPost (w : World) (g N : Nat) (e : Ending) (w' : World) : Prop:=∃ (A : Option Addr) (ca : Nat) (rs : List RoomE) (D : Option Addr) (cd : Nat) (ds : List DoorE) (st gl : List UInt8) (TR : Option Addr) (c2 : Nat) (tr : List (List UInt8)),e = .returned (.tuple #[.agg #[.slice A rs.length ca,.slice D ds.length cd,.string ⟨st.toArray⟩,.string ⟨gl.toArray⟩],.slice TR tr.length c2,.int .i64 (tricksE rs ds st gl tr)]) ∧ MapW w' w.heap.size A rs D ds ∧ Row w' w.heap.size 1 TR tr.length (strs tr) ∧ tr.length ≤ 2000 ∧ Str w' g N ∧ w.grownBy w' (some g)
theorem res_mapped (tmps : Array Value) (w : World) (m : Nat) (a b u v : Value) (c d : List UInt8) (X Y : Option Addr) (xn xc yn yc : Nat) (ha : a = .slice X xn xc) (hb : b = .slice Y yn yc) (hx : tmps.getD 2 undef = .pointer (some ⟨m,0,none⟩)) (hu : tmps.getD 3 undef = u) (hv : tmps.getD 4 undef = v) (f0 : w.cell? ⟨m,0,none⟩ = some a) (f1 : w.cell? ⟨m,1,none⟩ = some b) (f2 : w.cell? ⟨m,2,none⟩ = some (.string ⟨c.toArray⟩)) (f3 : w.cell? ⟨m,3,none⟩ = some (.string ⟨d.toArray⟩)) :
  (results Tryz.f6 tmps).run Tryz.prog w = .ok (.tuple #[.agg #[a,b,.string ⟨c.toArray⟩,.string ⟨d.toArray⟩],u,v]) w:=by
 have e : Tryz.f6.results = #[.cell 2 29,.tmp 3,.tmp 4]:=by kernel_rfl
 have hx' : tmps[2]?.getD undef = .pointer (some ⟨m,0,none⟩):=by simpa using hx
 have hu' : tmps[3]?.getD undef = u:=by simpa using hu
 have hv' : tmps[4]?.getD undef = v:=by simpa using hv
 subst ha hb
 simp [results,e,hx',hu',hv',go_sem,f0,f1,f2,f3]
set_option maxHeartbeats 8000000 in
set_option maxRecDepth 100000 in
theorem mapped_any (g N : Nat) (w : World) (hs : Str w g N) (hN : N < 4611686018427300000) :
  Calls Tryz.prog 6 #[.pointer (some ⟨g,0,none⟩)] w (MpPost w g (N + 2000)):=by
 have hlt:=hs.lt
 have hs0:=hs.alloc (.cells #[.slice none 0 0,.slice none 0 0,.string ⟨#[]⟩,.string ⟨#[]⟩] 29)
 have hgr0 : w.grownBy (w.alloc (.cells #[.slice none 0 0,.slice none 0 0,.string ⟨#[]⟩,.string ⟨#[]⟩] 29)) (some g):=World.grownBy_alloc _ _ _
 have hres0 : Blk (w.alloc (.cells #[.slice none 0 0,.slice none 0 0,.string ⟨#[]⟩,.string ⟨#[]⟩] 29)) w.heap.size 29 #[.slice none 0 0,.slice none 0 0,.string ⟨#[]⟩,.string ⟨#[]⟩]:=Blk.new _ _ _
 have hsz0 : (w.alloc (.cells #[.slice none 0 0,.slice none 0 0,.string ⟨#[]⟩,.string ⟨#[]⟩] 29)).heap.size = w.heap.size + 1:=by simp
 have HSZ:=Lib.hid hsz0
 clear hsz0
 go_enter Tryz.func6,Tryz.ntmps6
 go_wp2_with fail
 generalize w.alloc (.cells #[.slice none 0 0,.slice none 0 0,.string ⟨#[]⟩,.string ⟨#[]⟩] 29) = w0 at *
 refine (mapOf_any g N w0 hs0 (by omega)).mono ?_
 rintro e w1 ⟨A,ca,rs,D,cd,ds,st,gl,rfl,hm1,hRB,hDB,hr1,hr5,hd1,hd9,hst,hgl,hs1,hg1⟩
 rw [HSZ.out] at hm1
 have hW1:=hm1.toW (by omega) (by omega) hRB hDB
 have hres1:=hres0.grown hg1 (by omega)
 have hgr1:=grown_trans' hgr0 hg1
 have hbx : Blk (w1.alloc (.cells #[.slice A rs.length ca,.slice D ds.length cd,.string ⟨st.toArray⟩,.string ⟨gl.toArray⟩] 29)) w1.heap.size 29 #[.slice A rs.length ca,.slice D ds.length cd,.string ⟨st.toArray⟩,.string ⟨gl.toArray⟩]:=Blk.new _ _ _
 have hz1:=hres1.lt
 replace hres1:=hres1.alloc (.cells #[.slice A rs.length ca,.slice D ds.length cd,.string ⟨st.toArray⟩,.string ⟨gl.toArray⟩] 29)
 replace hs1:=hs1.alloc (.cells #[.slice A rs.length ca,.slice D ds.length cd,.string ⟨st.toArray⟩,.string ⟨gl.toArray⟩] 29)
 replace hgr1:=grown_alloc hgr1 (.cells #[.slice A rs.length ca,.slice D ds.length cd,.string ⟨st.toArray⟩,.string ⟨gl.toArray⟩] 29)
 replace hW1:=hW1.alloc (.cells #[.slice A rs.length ca,.slice D ds.length cd,.string ⟨st.toArray⟩,.string ⟨gl.toArray⟩] 29)
 clear hs0 hgr0 hres0 hm1 hRB hDB hg1
 go_wp2_with fail
 generalize w1.alloc (.cells #[.slice A rs.length ca,.slice D ds.length cd,.string ⟨st.toArray⟩,.string ⟨gl.toArray⟩] 29) = w2 at *
 generalize w1.heap.size = mb at *
 have htl:=trickList_any g _ (w.heap.size + 1) ca cd A rs D ds st gl w2 hs1 (by omega) hW1 (by omega)
 unfold mapV at htl
 simp only [encStr] at htl
 refine htl.mono ?_
 rintro e w3 ⟨TR,c2,tr,rfl,hot,htl3,hs3,hg3⟩
 clear htl
 have hW3:=hW1.grown hg3 (by omega)
 have hres3:=hres1.grown hg3 (by omega)
 have hbx3:=hbx.grown hg3 (by omega)
 have hgr3:=grown_trans' hgr1 hg3
 have hrt3 : Row w3 (w.heap.size + 1) 1 TR tr.length (strs tr):=(Row.of_own hot).weak (by have:=hbx.lt; omega)
 have hpw : hres3 = hres3:=rfl
 clear hpw hres1 hbx hgr1 hW1 hs1 hot hg3
 obtain ⟨te,hte⟩ : ∃ te,te = tricksE rs ds st gl tr:=⟨_,rfl⟩
 have HTE:=Lib.hid hte
 go_upto_region 3 with (fail)
 have HPO : Hid (∀ W,Below w3.heap.size w3 W → MapW W (w.heap.size + 1) A rs D ds ∧ Row W (w.heap.size + 1) 1 TR tr.length (strs tr) ∧ Str W g (N + 300 + 1100) ∧ w.grownBy W (some g)):=Lib.hid (fun W hW => ⟨hW3.below hW,hrt3.below hW,hs3.keep hW,grown_trans' hgr3 (grown_of_below hW _)⟩)
 have HSC : Hid (∀ W,Below w3.heap.size w3 W → (fun w' : World => w'.cell? ⟨mb,0,none⟩ = some (.slice A rs.length ca) ∧ w'.cell? ⟨mb,1,none⟩ = some (.slice D ds.length cd) ∧ w'.cell? ⟨mb,2,none⟩ = some (.string ⟨st.toArray⟩) ∧ w'.cell? ⟨mb,3,none⟩ = some (.string ⟨gl.toArray⟩)) W ∧ Blk W w.heap.size 29 #[.slice none 0 0,.slice none 0 0,.string ⟨#[]⟩,.string ⟨#[]⟩]):=Lib.hid (fun W hW => ⟨⟨(hbx3.below hW).cell 0,(hbx3.below hW).cell 1,(hbx3.below hW).cell 2,(hbx3.below hW).cell 3⟩,hres3.below hW⟩)
 have hbz : Below w3.heap.size w3 w3.drew:=below_drewN' (Below.refl _ _) 1
 have hsc:=(HSC.out _ hbz).1
 clear hte hW3 hrt3 hs3 hgr3 hbx3 hres3

 refine wp_region_held_drew (S:=(fun w' => w'.cell? ⟨mb,0,none⟩ = some (.slice A rs.length ca) ∧ w'.cell? ⟨mb,1,none⟩ = some (.slice D ds.length cd) ∧ w'.cell? ⟨mb,2,none⟩ = some (.string ⟨st.toArray⟩) ∧ w'.cell? ⟨mb,3,none⟩ = some (.string ⟨gl.toArray⟩))) (by kernel_rfl) (hsc) (fun hHeld => ?_)
 (refine QT (i:=0) (v:=?_) ?_ ?_; (rotate_left 1; (intro w hSw; (try dsimp only at hSw); go_simp); (try with_reducible rfl)); (try simp only [Act.put,Q3,Q4,Q5]))
 (refine QT (i:=1) (v:=?_) ?_ ?_; (rotate_left 1; (intro w hSw; (try dsimp only at hSw); go_simp); (try with_reducible rfl)); (try simp only [Act.put,Q3,Q4,Q5]))
 (refine QT (i:=2) (v:=?_) ?_ ?_; (rotate_left 1; (intro w hSw; (try dsimp only at hSw); go_simp); (try with_reducible rfl)); (try simp only [Act.put,Q3,Q4,Q5]))
 (refine QT (i:=3) (v:=?_) ?_ ?_; (rotate_left 1; (intro w hSw; (try dsimp only at hSw); go_simp); (try with_reducible rfl)); (try simp only [Act.put,Q3,Q4,Q5]))
 refine wpAnyH_ready (rs:=[4]) (by kernel_rfl) (by simp) ?_
 refine AllReadyH.cons rfl (fun K hK => ?_) AllReadyH.nil
 go_simp
 go_at_call 47
 have htf:=rTricksFault_any (w.heap.size + 1) ca cd A rs D ds st gl (w.heap.size + 1) c2 TR tr _ (HPO.out _ hbz).1 (HPO.out _ hbz).2.1 (by omega)
 unfold mapV at htf
 simp only [encStr] at htf
 rw [← HTE.out] at htf
 refine htf.mono ?_
 rintro e w4 ⟨rfl,hb⟩
 clear htf
 replace hbz:=hbz.trans (hb.mono hbz.size)
 have hsc:=(HSC.out _ hbz).1
 clear hb
 go_wp2_with fail
 refine hK.out _ _ (hsc) (fun hHeld => ?_)
 clear hK K
 (try simp only [Act.put,Q3,Q4,Q5])
 refine wpAnyH_ready (rs:=[5]) (by kernel_rfl) (by simp) ?_
 refine AllReadyH.cons rfl (fun K hK => ?_) AllReadyH.nil
 have hr7:=(HSC.out _ hbz).2
 obtain ⟨r0,r1,r2,r3⟩ : _ ∧ _ ∧ _ ∧ _:=⟨hr7.cell 0,hr7.cell 1,hr7.cell 2,hr7.cell 3⟩
 simp only [Q0,Q2,Q1] at r0 r1 r2 r3
 have f0:=hr7.thaw 0
 have f1:=hr7.thaw 1
 have f2:=hr7.thaw 2
 have f3:=hr7.thaw 3
 have zr:=hr7.lt
 obtain ⟨hw7,ht7,hs7,hg7⟩:=HPO.out _ hbz
 have hz:=(((hr7.poke 0 (.slice A rs.length ca)).poke 1 (.slice D ds.length cd)).poke 2 (.string ⟨st.toArray⟩)).poke 3 (.string ⟨gl.toArray⟩)
 have HW8:=Lib.hid (((((hw7.setLow (show w.heap.size < w.heap.size + 1 by omega) 0 (.slice A rs.length ca)).setLow (show w.heap.size < w.heap.size + 1 by omega) 1 (.slice D ds.length cd)).setLow (show w.heap.size < w.heap.size + 1 by omega) 2 (.string ⟨st.toArray⟩)).setLow (show w.heap.size < w.heap.size + 1 by omega) 3 (.string ⟨gl.toArray⟩)).weak (show w.heap.size ≤ w.heap.size + 1 by omega))
 have HT8:=Lib.hid (((((ht7.set_low w.heap.size 0 (.slice A rs.length ca) (by omega)).set_low w.heap.size 1 (.slice D ds.length cd) (by omega)).set_low w.heap.size 2 (.string ⟨st.toArray⟩) (by omega)).set_low w.heap.size 3 (.string ⟨gl.toArray⟩) (by omega)).weak (show w.heap.size ≤ w.heap.size + 1 by omega))
 have HS8:=Lib.hid (((((hs7.set (p:=⟨w.heap.size,0,none⟩) hlt (.slice A rs.length ca)).set (p:=⟨w.heap.size,1,none⟩) hlt (.slice D ds.length cd)).set (p:=⟨w.heap.size,2,none⟩) hlt (.string ⟨st.toArray⟩)).set (p:=⟨w.heap.size,3,none⟩) hlt (.string ⟨gl.toArray⟩)).more (show _ ≤ N + 2000 by omega))
 have HG8:=Lib.hid (grown_set_new (grown_set_new (grown_set_new (grown_set_new hg7 (p:=⟨w.heap.size,0,none⟩) (Nat.le_refl _) (.slice A rs.length ca)) (p:=⟨w.heap.size,1,none⟩) (Nat.le_refl _) (.slice D ds.length cd)) (p:=⟨w.heap.size,2,none⟩) (Nat.le_refl _) (.string ⟨st.toArray⟩)) (p:=⟨w.heap.size,3,none⟩) (Nat.le_refl _) (.string ⟨gl.toArray⟩))
 have hs8 : (fun w' : World => w'.cell? ⟨mb,0,none⟩ = some (.slice A rs.length ca) ∧ w'.cell? ⟨mb,1,none⟩ = some (.slice D ds.length cd) ∧ w'.cell? ⟨mb,2,none⟩ = some (.string ⟨st.toArray⟩) ∧ w'.cell? ⟨mb,3,none⟩ = some (.string ⟨gl.toArray⟩)) ((((w4.setCell ⟨w.heap.size,0,none⟩ (.slice A rs.length ca)).setCell ⟨w.heap.size,1,none⟩ (.slice D ds.length cd)).setCell ⟨w.heap.size,2,none⟩ (.string ⟨st.toArray⟩)).setCell ⟨w.heap.size,3,none⟩ (.string ⟨gl.toArray⟩)):=by
  obtain ⟨a1,a2,a3,a4⟩:=hsc
  have hne : w.heap.size ≠ mb:=by omega
  exact ⟨cell_off (cell_off (cell_off (cell_off a1 hne) hne) hne) hne,cell_off (cell_off (cell_off (cell_off a2 hne) hne) hne) hne,cell_off (cell_off (cell_off (cell_off a3 hne) hne) hne) hne,cell_off (cell_off (cell_off (cell_off a4 hne) hne) hne) hne⟩
 clear hw7 ht7 hs7 hg7
 go_simp
 refine hK.out _ _ (hs8) (fun hHeld => ?_)
 clear hK K
 (try simp only [Act.put,Q3,Q4,Q5])
 (refine QT (i:=6) (v:=?_) ?_ ?_; (rotate_left 1; (intro w hSw; (try dsimp only at hSw); go_simp); (try with_reducible rfl)); (try simp only [Act.put,Q3,Q4,Q5]))
 (refine QT (i:=7) (v:=?_) ?_ ?_; (rotate_left 1; (intro w hSw; (try dsimp only at hSw); go_simp); (try with_reducible rfl)); (try simp only [Act.put,Q3,Q4,Q5]))
 refine wpAnyH_done (by kernel_rfl) ?_ _
 go_wp2_with fail
 refine bodyPost_ret (res_mapped _ _ w.heap.size _ _ (.slice TR tr.length c2) (.int .i64 te) st gl A D rs.length ca ds.length cd rfl rfl rfl rfl rfl (hz.cell 0) (hz.cell 1) (hz.cell 2) (hz.cell 3)) rfl ?_
 refine ⟨A,ca,rs,D,cd,ds,st,gl,TR,c2,tr,?_,HW8.out,HT8.out,htl3,HS8.out,HG8.out⟩
 rw [HTE.out]
end Go.Proofs.YtjggbpchmbdocaaGreatDoor
