/- Texts of this seat, laid together: LawWaysCanBeWalked. -/
import Derived.Test.YthchgkdhegaehaaGreatDoorBq41
import Derived.Test.YthchgkdhegaehaaGreatDoorBq39
import Derived.Test.YthchgkdhegaehaaGreatDoorBq27
import Derived.Test.YthchgkdhegaehaaGreatDoorBq40
/- For every list of numbers the law WaysCanBeWalked returns true and leaves the list as it was: its walk. -/
namespace Go.Proofs.YthchgkdhegaehaaGreatDoor
set_option linter.unusedVariables false
set_option linter.unusedSimpArgs false
open Go.RowKit Go.Sort

set_option maxHeartbeats 8000000 in
set_option maxRecDepth 100000 in
theorem ways_walk (A0 : Option Addr) (n c : Nat) (w : World) (hn : n ≤ 9223372036854775807)
  (hz : ∀ k,k < n → ∃ b off z,A0 = some ⟨b,off,none⟩ ∧ b < w.heap.size ∧ w.cell? ⟨b,off + k,none⟩ = some (.int .i64 z) ∧ I64 z) :
  LawCall 4 A0 n c w:=by
 have hstr:=str_make (c:=c) hn hz
 clear hz
 have hx : Below w.heap.size w (w.alloc (.cells #[.slice A0 n c,.int .i64 0] 25)):=(Below.refl _ _).alloc (Nat.le_refl _) _
 have hz0 : (w.alloc (.cells #[.slice A0 n c,.int .i64 0] 25)).heap.size = w.heap.size + 1:=by simp
 go_enter Tryz.func4,Tryz.ntmps4
 go_wp2_with fail
 generalize w.alloc (.cells #[.slice A0 n c,.int .i64 0] 25) = w0 at *
 clear hn
 refine (rightMapG_any w.heap.size 0 w0 hstr (by omega)).mono ?_
 clear hstr
 rintro e w1 ⟨A,ca,rs,D,cd,ds,st,gl,rfl,hmo,hrg,hdg,hr2,hr5,hd1,hd9,hst,hgl,hs1,hg1⟩
 have hz1:=hg1.size
 have HM0:=Lib.hid (mapE_G hrg hdg hr5 hd9 hst hgl)
 have HKB : Hid ((onceT (allK ds)).length ≤ 1000000000):=Lib.hid (by have:=allK_le ds; have:=onceT_le (allK ds); omega)
 have HNS : Hid (nS rs (onceT (allT rs ds)) ≤ 240):=Lib.hid (nS_few hr5 (few_G hrg hdg))
 have hmw:=hmo.toW (by omega) (by omega) hrg.b hdg.b
 have hx:=(hx.grown hg1 (by omega) (fun k hk => by injection hk with hk; omega)).alloc (by omega) (.cells #[.slice A rs.length ca,.slice D ds.length cd,.string ⟨st.toArray⟩,.string ⟨gl.toArray⟩] 29)
 have hbx0 : Blk (w1.alloc (.cells #[.slice A rs.length ca,.slice D ds.length cd,.string ⟨st.toArray⟩,.string ⟨gl.toArray⟩] 29)) w1.heap.size 29 #[.slice A rs.length ca,.slice D ds.length cd,.string ⟨st.toArray⟩,.string ⟨gl.toArray⟩]:=Blk.new _ _ _
 replace hmw:=hmw.alloc (.cells #[.slice A rs.length ca,.slice D ds.length cd,.string ⟨st.toArray⟩,.string ⟨gl.toArray⟩] 29)
 have hs:=hs1.alloc (.cells #[.slice A rs.length ca,.slice D ds.length cd,.string ⟨st.toArray⟩,.string ⟨gl.toArray⟩] 29)
 have hlo : w.heap.size < w0.heap.size:=by omega
 have hmb : w.heap.size < w1.heap.size:=by omega
 have hlw : w0.heap.size ≤ (w1.alloc (.cells #[.slice A rs.length ca,.slice D ds.length cd,.string ⟨st.toArray⟩,.string ⟨gl.toArray⟩] 29)).heap.size:=by simp; omega
 clear hmo hrg hdg hs1 hg1 hst hgl hz0 hz1
 go_upto_region 3 with (fail)
 generalize w1.alloc (.cells #[.slice A rs.length ca,.slice D ds.length cd,.string ⟨st.toArray⟩,.string ⟨gl.toArray⟩] 29) = w2 at *
 generalize w1.heap.size = mb at *
 generalize w0.heap.size = lo at *
 obtain ⟨a0,a1,a2,a3⟩:=hbx0.fourR
 have za:=hbx0.lt
 have hTL:=trickList_any w.heap.size (0 + 200) lo ca cd A rs D ds st gl w2 hs (by omega) hmw hlo
 unfold mapV at hTL
 simp only [encStr] at hTL
 go_wp2_with fail
 refine hTL.mono ?_
 clear hTL
 rintro e w3 ⟨TR,c2,tr,rfl,hto,htl,hs3,hg3⟩
 have hI : LrI w w3 lo mb (0 + 200 + 1100) A ca rs D cd ds st gl TR tr:=⟨hmw.grown hg3 hlo,(Row.of_own hto).weak hlw,hbx0.grown hg3 (by omega),hs3,hx.grown hg3 hx.size (fun k hk => by injection hk with hk; omega)⟩
 clear hmw hto hbx0 hs hs3 hx hg3 hlw a0 a1 a2 a3 za
 obtain ⟨te,hte⟩ : ∃ te,te = tricksE rs ds st gl tr:=⟨_,rfl⟩
 have HTE:=Lib.hid hte
 clear hte
 have hTF:=rTricksFault_any lo ca cd A rs D ds st gl lo c2 TR tr w3 hI.m hI.t (by omega)
 rw [← HTE.out] at hTF
 unfold mapV at hTF
 simp only [encStr] at hTF
 obtain ⟨a0,a1,a2,a3⟩:=hI.cells
 have za:=hI.b.lt
 go_wp2_with fail
 refine hTF.mono ?_
 clear hTF
 rintro e w4 ⟨rfl,hb⟩
 replace hI:=hI.below hb
 clear hb a0 a1 a2 a3 za
 by_cases h0 : te = 0
 ·subst h0
  obtain ⟨a0,a1,a2,a3⟩:=hI.cells
  have za:=hI.b.lt
  have hFA:=Fastest_ok lo ca cd lo c2 A rs D ds st gl TR tr w4 hI.m hI.t (by omega) HTE.out.symm
  generalize hT : onceT (allT rs ds) = T at *
  have HT:=Lib.hid hT
  clear hT
  unfold mapV at hFA
  simp only [encStr] at hFA
  go_wp2_with fail
  refine hFA.mono ?_
  clear hFA
  rintro e w5 ⟨K1,t1,b1,P1,p1,rfl,hq1,ho1,hb⟩
  have HQ1:=Lib.hid hq1
  have hk1:=hq1.len
  have hk0:=HNS.out
  have hp1 : Blk (w5.alloc (.cells #[.slice P1 K1.length p1,.int .i64 t1] 34)) w5.heap.size 34 #[.slice P1 K1.length p1,.int .i64 t1]:=Blk.new _ _ _
  have hpw : w.heap.size < w5.heap.size:=by have:=hI.b.lt; have:=hb.size; omega
  replace hI:=(hI.below hb).alloc (.cells #[.slice P1 K1.length p1,.int .i64 t1] 34)
  have hr1:=(row_down0 (Row.of_own ho1)).alloc (.cells #[.slice P1 K1.length p1,.int .i64 t1] 34)
  clear hq1 ho1 hb a0 a1 a2 a3 za
  go_upto_region 7 with (fail)
  generalize w5.alloc (.cells #[.slice P1 K1.length p1,.int .i64 t1] 34) = w6 at *
  generalize w5.heap.size = pa at *
  go_cut [9,10,11] from 38 to 45 (fun u v x wx => ∃ (K2 : List (List UInt8)) (t2 : Int) (b2 : Bool) (P2 : Option Addr) (p2 qa : Nat),u = .pointer (some ⟨qa,0,none⟩) ∧ v = .bool b2 ∧ x = .int .i64 0 ∧ K2.length ≤ 240 ∧ Blk wx qa 34 #[.slice P2 K2.length p2,.int .i64 t2] ∧ LrI w wx lo mb (0 + 200 + 1100) A ca rs D cd ds st gl TR tr ∧ Blk wx pa 34 #[.slice P1 K1.length p1,.int .i64 t1] ∧ Row wx 0 1 P1 K1.length (strs K1) ∧ Row wx 0 1 P2 K2.length (strs K2) ∧ Hid (FaQ rs ds T (onceT (allK ds)) st gl K2 t2 b2))
  case first =>
   generalize w6 = Z at *
   have HLZ : Hid (∀ W,Below Z.heap.size Z W → (LrI w W lo mb (0 + 200 + 1100) A ca rs D cd ds st gl TR tr) ∧ Blk W pa 34 #[.slice P1 K1.length p1,.int .i64 t1] ∧ Row W 0 1 P1 K1.length (strs K1)):=Lib.hid (fun W hb => ⟨hI.below hb,hp1.below hb,hr1.below hb⟩)
   have hbz : Below Z.heap.size Z Z.drew:=below_drewN' (Below.refl _ _) 1
   clear hI hp1 hr1
   go_wp2_with fail
   refine wp_region_held_drew (S:=(fun w' => w'.cell? ⟨mb,0,none⟩ = some (.slice A rs.length ca) ∧ w'.cell? ⟨mb,1,none⟩ = some (.slice D ds.length cd) ∧ w'.cell? ⟨mb,2,none⟩ = some (.string ⟨st.toArray⟩) ∧ w'.cell? ⟨mb,3,none⟩ = some (.string ⟨gl.toArray⟩))) (by kernel_rfl) ((HLZ.out _ hbz).1.cells) (fun hHeld => ?_)
   (refine wpAnyH_take (i:=0) (v:=?_) (by (simp only [Q0,Q2]; rfl)) (by kernel_rfl) (by kernel_rfl) (by kernel_rfl) (by exact fun _ _ _ h => h) (Or.inl ⟨by rfl,?_⟩) (by assumption) ?_; (rotate_left 1; (intro w hSw; (try dsimp only at hSw); go_simp); (try with_reducible rfl)); (try simp only [Act.put,Q3,Q4,Q5]))
   (refine wpAnyH_take (i:=1) (v:=?_) (by (simp only [Q0,Q1,Q2]; rfl)) (by kernel_rfl) (by kernel_rfl) (by kernel_rfl) (by exact fun _ _ _ h => h) (Or.inl ⟨by rfl,?_⟩) (by assumption) ?_; (rotate_left 1; (intro w hSw; (try dsimp only at hSw); go_simp); (try with_reducible rfl)); (try simp only [Act.put,Q3,Q4,Q5]))
   refine wpAnyH_ready (rs:=[2,8]) (by kernel_rfl) (by simp) ?_
   refine AllReadyH.cons rfl (fun K hK => ?_) (AllReadyH.cons rfl (fun K hK => ?_) AllReadyH.nil)
   case refine_1 =>
    go_simp
    go_at_call 8
    have hcm:=rTricks_any lo ca cd A rs D ds st gl _ (HLZ.out _ hbz).1.m
    unfold mapV at hcm
    simp only [encStr] at hcm
    refine hcm.mono ?_
    rintro e wt ⟨TB,tc,rfl,hob,hb⟩
    clear hcm
    have hbz:=hbz.trans (hb.mono hbz.size)
    have hrb:=row_down0 (Row.of_own hob)
    clear hb hob
    go_wp2_with fail
    refine hK.out _ _ ((HLZ.out _ hbz).1.cells) (fun hHeld => ?_)
    clear hK K
    (try simp only [Act.put,Q3,Q4,Q5])
    refine wpAnyH_ready (rs:=[3,8]) (by kernel_rfl) (by simp) ?_
    refine AllReadyH.cons rfl (fun K hK => ?_) (AllReadyH.cons rfl (fun K hK => ?_) AllReadyH.nil)
    case refine_1 =>
     go_simp
     go_at_call 9
     have hcm:=Fastest_ok lo ca cd 0 tc A rs D ds st gl TB (onceT (allK ds)) _ (HLZ.out _ hbz).1.m hrb HKB.out (tricks_all HM0.out)
     rw [HT.out] at hcm
     unfold mapV at hcm
     simp only [encStr] at hcm
     refine hcm.mono ?_
     rintro e wf ⟨K2,t2,b2,P2,p2,rfl,hq2,ho2,hb⟩
     clear hcm
     have hbz:=hbz.trans (hb.mono hbz.size)
     have HQ2:=Lib.hid hq2
     have hk2:=hq2.len
     clear hb hq2
     go_wp2_with fail
     refine hK.out _ _ ((HLZ.out _ hbz).1.cells) (fun hHeld => ?_)
     clear hK K
     (try simp only [Act.put,Q3,Q4,Q5])
     (refine wpAnyH_take (i:=4) (v:=?_) (by (simp only [Q0,Q1,Q2]; rfl)) (by kernel_rfl) (by kernel_rfl) (by kernel_rfl) (by exact fun _ _ _ h => h) (Or.inl ⟨by rfl,?_⟩) (by assumption) ?_; (rotate_left 1; (intro w hSw; (try dsimp only at hSw); go_simp); (try with_reducible rfl)); (try simp only [Act.put,Q3,Q4,Q5]))
     (refine wpAnyH_take (i:=5) (v:=?_) (by (simp only [Q0,Q1,Q2]; rfl)) (by kernel_rfl) (by kernel_rfl) (by kernel_rfl) (by exact fun _ _ _ h => h) (Or.inl ⟨by rfl,?_⟩) (by assumption) ?_; (rotate_left 1; (intro w hSw; (try dsimp only at hSw); go_simp); (try with_reducible rfl)); (try simp only [Act.put,Q3,Q4,Q5]))
     (refine wpAnyH_take (i:=6) (v:=?_) (by (simp only [Q0,Q1,Q2]; rfl)) (by kernel_rfl) (by kernel_rfl) (by kernel_rfl) (by exact fun _ _ _ h => h) (Or.inl ⟨by rfl,?_⟩) (by assumption) ?_; (rotate_left 1; (intro w hSw; (try dsimp only at hSw); go_simp); (try with_reducible rfl)); (try simp only [Act.put,Q3,Q4,Q5]))
     (refine wpAnyH_take (i:=7) (v:=?_) (by (simp only [Q0,Q1,Q2]; rfl)) (by kernel_rfl) (by kernel_rfl) (by kernel_rfl) (by exact fun _ _ _ h => h) (Or.inl ⟨by rfl,?_⟩) (by assumption) ?_; (rotate_left 1; (intro w hSw; (try dsimp only at hSw); go_simp); (try with_reducible rfl)); (try simp only [Act.put,Q3,Q4,Q5]))
     refine wpAnyH_ready (rs:=[8]) (by kernel_rfl) (by simp) ?_
     refine AllReadyH.cons rfl (fun K hK => ?_) AllReadyH.nil
     go_simp
     have hbz0:=hbz
     have hz8 : Z.heap.size ≤ wf.heap.size:=hbz.size
     have hq8 : Blk (wf.alloc (.cells #[.slice none 0 0,.int .i64 0] 34)) wf.heap.size 34 #[.slice none 0 0,.int .i64 0]:=Blk.at_ _ (by simp)
     have hbz:=hbz.alloc hbz.size (.cells #[.slice none 0 0,.int .i64 0] 34)
     have ho20:=ho2
     refine hK.out _ _ ((HLZ.out _ hbz).1.cells) (fun hHeld => ?_)
     clear hK K
     (try simp only [Act.put,Q3,Q4,Q5])
     refine wpAnyH_ready (rs:=[9]) (by kernel_rfl) (by simp) ?_
     refine AllReadyH.cons rfl (fun K hK => ?_) AllReadyH.nil
     go_simp
     have hq9 : Blk (wf.alloc (.cells #[.slice P2 K2.length p2,.int .i64 t2] 34)) wf.heap.size 34 #[.slice P2 K2.length p2,.int .i64 t2]:=Blk.new _ _ _
     have hbz:=hbz0.alloc hbz0.size (.cells #[.slice P2 K2.length p2,.int .i64 t2] 34)
     have ho2:=ho20.alloc (.cells #[.slice P2 K2.length p2,.int .i64 t2] 34)
     refine hK.out _ _ ((HLZ.out _ hbz).1.cells) (fun hHeld => ?_)
     clear hK K
     (try simp only [Act.put,Q3,Q4,Q5])
     (refine wpAnyH_take (i:=10) (v:=?_) (by (simp only [Q0,Q1,Q2]; rfl)) (by kernel_rfl) (by kernel_rfl) (by kernel_rfl) (by exact fun _ _ _ h => h) (Or.inl ⟨by rfl,?_⟩) (by assumption) ?_; (rotate_left 1; (intro w hSw; (try dsimp only at hSw); go_simp); (try with_reducible rfl)); (try simp only [Act.put,Q3,Q4,Q5]))
     (refine wpAnyH_take (i:=11) (v:=?_) (by (simp only [Q0,Q1,Q2]; rfl)) (by kernel_rfl) (by kernel_rfl) (by kernel_rfl) (by exact fun _ _ _ h => h) (Or.inl ⟨by rfl,?_⟩) (by assumption) ?_; (rotate_left 1; (intro w hSw; (try dsimp only at hSw); go_simp); (try with_reducible rfl)); (try simp only [Act.put,Q3,Q4,Q5]))
     refine wpAnyH_done (by kernel_rfl) ?_ _
     go_wp2_with fail
     go_meet
     exact ⟨K2,t2,b2,P2,p2,_,rfl,rfl,rfl,by omega,hq9,(HLZ.out _ hbz).1,(HLZ.out _ hbz).2.1,(HLZ.out _ hbz).2.2,row_down0 (Row.of_own ho2),HQ2⟩
    case refine_2 =>
     go_simp
     have hbz0:=hbz
     have hz8 : Z.heap.size ≤ wt.heap.size:=hbz.size
     have hq8 : Blk (wt.alloc (.cells #[.slice none 0 0,.int .i64 0] 34)) wt.heap.size 34 #[.slice none 0 0,.int .i64 0]:=Blk.at_ _ (by simp)
     have hbz:=hbz.alloc hbz.size (.cells #[.slice none 0 0,.int .i64 0] 34)
     have hrb:=hrb.alloc (.cells #[.slice none 0 0,.int .i64 0] 34)
     refine hK.out _ _ ((HLZ.out _ hbz).1.cells) (fun hHeld => ?_)
     clear hK K
     (try simp only [Act.put,Q3,Q4,Q5])
     refine wpAnyH_ready (rs:=[3]) (by kernel_rfl) (by simp) ?_
     refine AllReadyH.cons rfl (fun K hK => ?_) AllReadyH.nil
     go_simp
     go_at_call 9
     have hcm:=Fastest_ok lo ca cd 0 tc A rs D ds st gl TB (onceT (allK ds)) _ (HLZ.out _ hbz).1.m hrb HKB.out (tricks_all HM0.out)
     rw [HT.out] at hcm
     unfold mapV at hcm
     simp only [encStr] at hcm
     refine hcm.mono ?_
     rintro e wf ⟨K2,t2,b2,P2,p2,rfl,hq2,ho2,hb⟩
     clear hcm
     have hbz:=hbz.trans (hb.mono hbz.size)
     have hq8:=hq8.below hb
     have HQ2:=Lib.hid hq2
     have hk2:=hq2.len
     clear hb hq2
     go_wp2_with fail
     refine hK.out _ _ ((HLZ.out _ hbz).1.cells) (fun hHeld => ?_)
     clear hK K
     (try simp only [Act.put,Q3,Q4,Q5])
     (refine wpAnyH_take (i:=4) (v:=?_) (by (simp only [Q0,Q1,Q2]; rfl)) (by kernel_rfl) (by kernel_rfl) (by kernel_rfl) (by exact fun _ _ _ h => h) (Or.inl ⟨by rfl,?_⟩) (by assumption) ?_; (rotate_left 1; (intro w hSw; (try dsimp only at hSw); go_simp); (try with_reducible rfl)); (try simp only [Act.put,Q3,Q4,Q5]))
     (refine wpAnyH_take (i:=5) (v:=?_) (by (simp only [Q0,Q1,Q2]; rfl)) (by kernel_rfl) (by kernel_rfl) (by kernel_rfl) (by exact fun _ _ _ h => h) (Or.inl ⟨by rfl,?_⟩) (by assumption) ?_; (rotate_left 1; (intro w hSw; (try dsimp only at hSw); go_simp); (try with_reducible rfl)); (try simp only [Act.put,Q3,Q4,Q5]))
     (refine wpAnyH_take (i:=6) (v:=?_) (by (simp only [Q0,Q1,Q2]; rfl)) (by kernel_rfl) (by kernel_rfl) (by kernel_rfl) (by exact fun _ _ _ h => h) (Or.inl ⟨by rfl,?_⟩) (by assumption) ?_; (rotate_left 1; (intro w hSw; (try dsimp only at hSw); go_simp); (try with_reducible rfl)); (try simp only [Act.put,Q3,Q4,Q5]))
     (refine wpAnyH_take (i:=7) (v:=?_) (by (simp only [Q0,Q1,Q2]; rfl)) (by kernel_rfl) (by kernel_rfl) (by kernel_rfl) (by exact fun _ _ _ h => h) (Or.inl ⟨by rfl,?_⟩) (by assumption) ?_; (rotate_left 1; (intro w hSw; (try dsimp only at hSw); go_simp); (try with_reducible rfl)); (try simp only [Act.put,Q3,Q4,Q5]))
     refine wpAnyH_ready (rs:=[9]) (by kernel_rfl) (by simp) ?_
     refine AllReadyH.cons rfl (fun K hK => ?_) AllReadyH.nil
     have f0:=hq8.thaw 0
     have f1:=hq8.thaw 1
     obtain ⟨c0,c1⟩:=hq8.w2
     have zq:=hq8.lt
     go_simp
     clear f0 f1 c0 c1 zq
     have hq9:=hq8.poke 0 (.slice P2 K2.length p2)
     have hq9:=hq9.poke 1 (.int .i64 t2)
     have ho2:=own_past (own_past ho2 hq8 (by decide) 0 (.slice P2 K2.length p2)) (hq8.poke 0 (.slice P2 K2.length p2)) (by decide) 1 (.int .i64 t2)
     have hbz:=Below.setCell (Below.setCell hbz (show Z.heap.size ≤ (⟨wt.heap.size,0,none⟩ : Addr).block from hz8) (.slice P2 K2.length p2)) (show Z.heap.size ≤ (⟨wt.heap.size,1,none⟩ : Addr).block from hz8) (.int .i64 t2)
     refine hK.out _ _ ((HLZ.out _ hbz).1.cells) (fun hHeld => ?_)
     clear hK K
     (try simp only [Act.put,Q3,Q4,Q5])
     (refine wpAnyH_take (i:=10) (v:=?_) (by (simp only [Q0,Q1,Q2]; rfl)) (by kernel_rfl) (by kernel_rfl) (by kernel_rfl) (by exact fun _ _ _ h => h) (Or.inl ⟨by rfl,?_⟩) (by assumption) ?_; (rotate_left 1; (intro w hSw; (try dsimp only at hSw); go_simp); (try with_reducible rfl)); (try simp only [Act.put,Q3,Q4,Q5]))
     (refine wpAnyH_take (i:=11) (v:=?_) (by (simp only [Q0,Q1,Q2]; rfl)) (by kernel_rfl) (by kernel_rfl) (by kernel_rfl) (by exact fun _ _ _ h => h) (Or.inl ⟨by rfl,?_⟩) (by assumption) ?_; (rotate_left 1; (intro w hSw; (try dsimp only at hSw); go_simp); (try with_reducible rfl)); (try simp only [Act.put,Q3,Q4,Q5]))
     refine wpAnyH_done (by kernel_rfl) ?_ _
     go_wp2_with fail
     go_meet
     exact ⟨K2,t2,b2,P2,p2,_,rfl,rfl,rfl,by omega,hq9,(HLZ.out _ hbz).1,(HLZ.out _ hbz).2.1,(HLZ.out _ hbz).2.2,row_down0 (Row.of_own ho2),HQ2⟩
   case refine_2 =>
    go_simp
    have hbz0:=hbz
    have hz8 : Z.heap.size ≤ Z.heap.size:=hbz.size
    have hq8 : Blk (Z.drew.alloc (.cells #[.slice none 0 0,.int .i64 0] 34)) Z.heap.size 34 #[.slice none 0 0,.int .i64 0]:=Blk.at_ _ (by simp)
    have hbz:=hbz.alloc hbz.size (.cells #[.slice none 0 0,.int .i64 0] 34)
    refine hK.out _ _ ((HLZ.out _ hbz).1.cells) (fun hHeld => ?_)
    clear hK K
    (try simp only [Act.put,Q3,Q4,Q5])
    refine wpAnyH_ready (rs:=[2]) (by kernel_rfl) (by simp) ?_
    refine AllReadyH.cons rfl (fun K hK => ?_) AllReadyH.nil
    go_simp
    go_at_call 8
    have hcm:=rTricks_any lo ca cd A rs D ds st gl _ (HLZ.out _ hbz).1.m
    unfold mapV at hcm
    simp only [encStr] at hcm
    refine hcm.mono ?_
    rintro e wt ⟨TB,tc,rfl,hob,hb⟩
    clear hcm
    have hbz:=hbz.trans (hb.mono hbz.size)
    have hq8:=hq8.below hb
    have hrb:=row_down0 (Row.of_own hob)
    clear hb hob
    go_wp2_with fail
    refine hK.out _ _ ((HLZ.out _ hbz).1.cells) (fun hHeld => ?_)
    clear hK K
    (try simp only [Act.put,Q3,Q4,Q5])
    refine wpAnyH_ready (rs:=[3]) (by kernel_rfl) (by simp) ?_
    refine AllReadyH.cons rfl (fun K hK => ?_) AllReadyH.nil
    go_simp
    go_at_call 9
    have hcm:=Fastest_ok lo ca cd 0 tc A rs D ds st gl TB (onceT (allK ds)) _ (HLZ.out _ hbz).1.m hrb HKB.out (tricks_all HM0.out)
    rw [HT.out] at hcm
    unfold mapV at hcm
    simp only [encStr] at hcm
    refine hcm.mono ?_
    rintro e wf ⟨K2,t2,b2,P2,p2,rfl,hq2,ho2,hb⟩
    clear hcm
    have hbz:=hbz.trans (hb.mono hbz.size)
    have hq8:=hq8.below hb
    have HQ2:=Lib.hid hq2
    have hk2:=hq2.len
    clear hb hq2
    go_wp2_with fail
    refine hK.out _ _ ((HLZ.out _ hbz).1.cells) (fun hHeld => ?_)
    clear hK K
    (try simp only [Act.put,Q3,Q4,Q5])
    (refine wpAnyH_take (i:=4) (v:=?_) (by (simp only [Q0,Q1,Q2]; rfl)) (by kernel_rfl) (by kernel_rfl) (by kernel_rfl) (by exact fun _ _ _ h => h) (Or.inl ⟨by rfl,?_⟩) (by assumption) ?_; (rotate_left 1; (intro w hSw; (try dsimp only at hSw); go_simp); (try with_reducible rfl)); (try simp only [Act.put,Q3,Q4,Q5]))
    (refine wpAnyH_take (i:=5) (v:=?_) (by (simp only [Q0,Q1,Q2]; rfl)) (by kernel_rfl) (by kernel_rfl) (by kernel_rfl) (by exact fun _ _ _ h => h) (Or.inl ⟨by rfl,?_⟩) (by assumption) ?_; (rotate_left 1; (intro w hSw; (try dsimp only at hSw); go_simp); (try with_reducible rfl)); (try simp only [Act.put,Q3,Q4,Q5]))
    (refine wpAnyH_take (i:=6) (v:=?_) (by (simp only [Q0,Q1,Q2]; rfl)) (by kernel_rfl) (by kernel_rfl) (by kernel_rfl) (by exact fun _ _ _ h => h) (Or.inl ⟨by rfl,?_⟩) (by assumption) ?_; (rotate_left 1; (intro w hSw; (try dsimp only at hSw); go_simp); (try with_reducible rfl)); (try simp only [Act.put,Q3,Q4,Q5]))
    (refine wpAnyH_take (i:=7) (v:=?_) (by (simp only [Q0,Q1,Q2]; rfl)) (by kernel_rfl) (by kernel_rfl) (by kernel_rfl) (by exact fun _ _ _ h => h) (Or.inl ⟨by rfl,?_⟩) (by assumption) ?_; (rotate_left 1; (intro w hSw; (try dsimp only at hSw); go_simp); (try with_reducible rfl)); (try simp only [Act.put,Q3,Q4,Q5]))
    refine wpAnyH_ready (rs:=[9]) (by kernel_rfl) (by simp) ?_
    refine AllReadyH.cons rfl (fun K hK => ?_) AllReadyH.nil
    have f0:=hq8.thaw 0
    have f1:=hq8.thaw 1
    obtain ⟨c0,c1⟩:=hq8.w2
    have zq:=hq8.lt
    go_simp
    clear f0 f1 c0 c1 zq
    have hq9:=hq8.poke 0 (.slice P2 K2.length p2)
    have hq9:=hq9.poke 1 (.int .i64 t2)
    have ho2:=own_past (own_past ho2 hq8 (by decide) 0 (.slice P2 K2.length p2)) (hq8.poke 0 (.slice P2 K2.length p2)) (by decide) 1 (.int .i64 t2)
    have hbz:=Below.setCell (Below.setCell hbz (show Z.heap.size ≤ (⟨Z.heap.size,0,none⟩ : Addr).block from hz8) (.slice P2 K2.length p2)) (show Z.heap.size ≤ (⟨Z.heap.size,1,none⟩ : Addr).block from hz8) (.int .i64 t2)
    refine hK.out _ _ ((HLZ.out _ hbz).1.cells) (fun hHeld => ?_)
    clear hK K
    (try simp only [Act.put,Q3,Q4,Q5])
    (refine wpAnyH_take (i:=10) (v:=?_) (by (simp only [Q0,Q1,Q2]; rfl)) (by kernel_rfl) (by kernel_rfl) (by kernel_rfl) (by exact fun _ _ _ h => h) (Or.inl ⟨by rfl,?_⟩) (by assumption) ?_; (rotate_left 1; (intro w hSw; (try dsimp only at hSw); go_simp); (try with_reducible rfl)); (try simp only [Act.put,Q3,Q4,Q5]))
    (refine wpAnyH_take (i:=11) (v:=?_) (by (simp only [Q0,Q1,Q2]; rfl)) (by kernel_rfl) (by kernel_rfl) (by kernel_rfl) (by exact fun _ _ _ h => h) (Or.inl ⟨by rfl,?_⟩) (by assumption) ?_; (rotate_left 1; (intro w hSw; (try dsimp only at hSw); go_simp); (try with_reducible rfl)); (try simp only [Act.put,Q3,Q4,Q5]))
    refine wpAnyH_done (by kernel_rfl) ?_ _
    go_wp2_with fail
    go_meet
    exact ⟨K2,t2,b2,P2,p2,_,rfl,rfl,rfl,by omega,hq9,(HLZ.out _ hbz).1,(HLZ.out _ hbz).2.1,(HLZ.out _ hbz).2.2,row_down0 (Row.of_own ho2),HQ2⟩
  case rest =>
   obtain ⟨K2,t2,b2,P2,p2,qa,rfl,rfl,rfl,hk2,hp2,hI,hp1,hr1,hr2,HQ2⟩:=hcut
   have HTI:=Lib.hid (tricks_in HTE.out.symm)
   have HR : Hid (Right rs ds st gl):=Lib.hid (right_of HM0.out)
   have hgg : (gl == gl) = true:=beq_self_eq_true gl
   cases hb1 : b1 with
   | true =>
    rw [hb1] at HQ1
    obtain ⟨rfl,hle⟩:=HQ1.out.mono HQ2.out HTI.out.1 rfl
    have d2 : decide (t1 < t2) = false:=decide_eq_false (by omega)
    obtain ⟨th,HWK⟩ : ∃ th,Hid (walkE rs ds st gl tr K1 = ⟨0,gl,th,t1⟩):=by
     obtain ⟨th,h⟩:=HQ1.out.walks HTE.out.symm HT.out (by have:=HNS.out; omega) rfl
     exact ⟨th,Lib.hid h⟩
    obtain ⟨c0,c1⟩:=hp1.w2
    obtain ⟨e0,e1⟩:=hp2.w2
    have zp:=hp1.lt
    have zq:=hp2.lt
    obtain ⟨a0,a1,a2,a3⟩:=hI.cells
    have za:=hI.b.lt
    have hcm:=walk_any lo ca cd lo c2 0 p1 A rs D ds st gl TR tr P1 K1 wc hI.m hI.t (by omega) hr1 (by omega)
    rw [HWK.out] at hcm
    unfold mapV at hcm
    simp only [encStr] at hcm
    subst hb1
    go_wp2_with fail
    refine hcm.mono ?_
    rintro e w7 ⟨PT,pc,rfl,_,hb⟩
    clear hcm a0 a1 a2 a3 za c0 c1 e0 e1 zp zq
    have hat : Blk (w7.alloc (.cells #[.string ⟨gl.toArray⟩,.slice PT th.length pc] 52)) w7.heap.size 52 #[.string ⟨gl.toArray⟩,.slice PT th.length pc]:=Blk.new _ _ _
    replace hI:=(hI.below hb).alloc (.cells #[.string ⟨gl.toArray⟩,.slice PT th.length pc] 52)
    replace hp1:=(hp1.below hb).alloc (.cells #[.string ⟨gl.toArray⟩,.slice PT th.length pc] 52)
    clear hb hp2
    go_upto_region 12 with (fail)
    generalize w7.alloc (.cells #[.string ⟨gl.toArray⟩,.slice PT th.length pc] 52) = w8 at *
    generalize w7.heap.size = ta at *
    obtain ⟨g0,g1⟩:=hat.w2
    have zt:=hat.lt
    obtain ⟨c0,c1⟩:=hp1.w2
    have zp:=hp1.lt
    obtain ⟨a0,a1,a2,a3⟩:=hI.cells
    have za:=hI.b.lt
    have hDL:=doorList_any w.heap.size (0 + 200 + 1100) lo ca cd lo c2 A rs D ds st gl TR tr w8 hI.s (by omega) hI.m hlo HR.out hI.t (by omega) hlo
    unfold mapV at hDL
    simp only [encStr] at hDL
    go_wp2_with fail
    refine hDL.mono ?_
    clear hDL
    rintro e w9 ⟨LA,lc,l,rfl,hlo9,hll,hs9,hg9⟩
    clear a0 a1 a2 a3 za c0 c1 zp g0 g1 zt
    replace hI:=hI.grown hg9 hs9 hlo hmb
    replace hp1:=hp1.grown hg9 (by omega)
    have hcm:=walk_any lo ca cd lo c2 _ lc A rs D ds st gl TR tr LA l w9 hI.m hI.t (by omega) (Row.of_own hlo9) (by omega)
    have HSL : Hid ((walkE rs ds st gl tr l).err = 0 → (walkE rs ds st gl tr l).room = gl → true = true ∧ t1 ≤ (walkE rs ds st gl tr l).time):=Lib.hid (HQ1.out.slow HTE.out.symm HT.out)
    generalize walkE rs ds st gl tr l = R at *
    obtain ⟨re,rr,rth,rt⟩:=R
    simp only at HSL
    unfold WaPost mapV at hcm
    simp only [encStr] at hcm
    obtain ⟨a0,a1,a2,a3⟩:=hI.cells
    have za:=hI.b.lt
    go_wp2_with fail
    refine hcm.mono ?_
    rintro e w10 ⟨PU,uc,rfl,_,hb⟩
    clear hcm a0 a1 a2 a3 za
    have hau : Blk (w10.alloc (.cells #[.string ⟨rr.toArray⟩,.slice PU rth.length uc] 52)) w10.heap.size 52 #[.string ⟨rr.toArray⟩,.slice PU rth.length uc]:=Blk.new _ _ _
    replace hI:=(hI.below hb).alloc (.cells #[.string ⟨rr.toArray⟩,.slice PU rth.length uc] 52)
    replace hp1:=(hp1.below hb).alloc (.cells #[.string ⟨rr.toArray⟩,.slice PU rth.length uc] 52)
    clear hb
    go_upto_region 16 with (fail)
    generalize w10.alloc (.cells #[.string ⟨rr.toArray⟩,.slice PU rth.length uc] 52) = w11 at *
    generalize w10.heap.size = ua at *
    obtain ⟨g0,g1⟩:=hau.w2
    have zt:=hau.lt
    obtain ⟨c0,c1⟩:=hp1.w2
    have zp:=hp1.lt
    obtain ⟨a0,a1,a2,a3⟩:=hI.cells
    have za:=hI.b.lt
    by_cases he : re = 0
    ·have d1 : (re != 0) = false:=by rw [he]; rfl
     by_cases hr : rr = gl
     ·have d2 : (rr == gl) = true:=beq_iff_eq.2 hr
      obtain ⟨h1,h2⟩:=HSL.out he hr
      have d3 : decide (t1 ≤ rt) = true:=decide_eq_true h2
      go_wp2_with fail
      refine (ready_any _).mono ?_
      rintro e w12 ⟨rfl,hb⟩
      replace hI:=hI.below hb
      go_wp2_with fail
      go_ret
      exact ⟨rfl,hI.x⟩
     ·have d2 : (rr == gl) = false:=beq_eq_false_iff_ne.2 hr
      go_wp2_with fail
      refine (ready_any _).mono ?_
      rintro e w12 ⟨rfl,hb⟩
      replace hI:=hI.below hb
      go_wp2_with fail
      go_ret
      exact ⟨rfl,hI.x⟩
    ·have d1 : (re != 0) = true:=bne_iff_ne.2 he
     go_wp2_with fail
     refine (ready_any _).mono ?_
     rintro e w12 ⟨rfl,hb⟩
     replace hI:=hI.below hb
     go_wp2_with fail
     go_ret
     exact ⟨rfl,hI.x⟩
   | false =>
    have HB1:=Lib.hid hb1
    subst hb1
    generalize wc = w8 at *
    obtain ⟨c0,c1⟩:=hp1.w2
    have zp:=hp1.lt
    obtain ⟨a0,a1,a2,a3⟩:=hI.cells
    have za:=hI.b.lt
    have hDL:=doorList_any w.heap.size (0 + 200 + 1100) lo ca cd lo c2 A rs D ds st gl TR tr w8 hI.s (by omega) hI.m hlo HR.out hI.t (by omega) hlo
    unfold mapV at hDL
    simp only [encStr] at hDL
    go_wp2_with fail
    refine hDL.mono ?_
    clear hDL
    rintro e w9 ⟨LA,lc,l,rfl,hlo9,hll,hs9,hg9⟩
    clear a0 a1 a2 a3 za c0 c1 zp
    replace hI:=hI.grown hg9 hs9 hlo hmb
    replace hp1:=hp1.grown hg9 (by omega)
    have hcm:=walk_any lo ca cd lo c2 _ lc A rs D ds st gl TR tr LA l w9 hI.m hI.t (by omega) (Row.of_own hlo9) (by omega)
    have HSL : Hid ((walkE rs ds st gl tr l).err = 0 → (walkE rs ds st gl tr l).room = gl → false = true ∧ t1 ≤ (walkE rs ds st gl tr l).time):=Lib.hid (HQ1.out.slow HTE.out.symm HT.out)
    generalize walkE rs ds st gl tr l = R at *
    obtain ⟨re,rr,rth,rt⟩:=R
    simp only at HSL
    unfold WaPost mapV at hcm
    simp only [encStr] at hcm
    obtain ⟨a0,a1,a2,a3⟩:=hI.cells
    have za:=hI.b.lt
    go_wp2_with fail
    refine hcm.mono ?_
    rintro e w10 ⟨PU,uc,rfl,_,hb⟩
    clear hcm a0 a1 a2 a3 za
    have hau : Blk (w10.alloc (.cells #[.string ⟨rr.toArray⟩,.slice PU rth.length uc] 52)) w10.heap.size 52 #[.string ⟨rr.toArray⟩,.slice PU rth.length uc]:=Blk.new _ _ _
    replace hI:=(hI.below hb).alloc (.cells #[.string ⟨rr.toArray⟩,.slice PU rth.length uc] 52)
    replace hp1:=(hp1.below hb).alloc (.cells #[.string ⟨rr.toArray⟩,.slice PU rth.length uc] 52)
    clear hb
    go_upto_region 16 with (fail)
    generalize w10.alloc (.cells #[.string ⟨rr.toArray⟩,.slice PU rth.length uc] 52) = w11 at *
    generalize w10.heap.size = ua at *
    obtain ⟨g0,g1⟩:=hau.w2
    have zt:=hau.lt
    obtain ⟨c0,c1⟩:=hp1.w2
    have zp:=hp1.lt
    obtain ⟨a0,a1,a2,a3⟩:=hI.cells
    have za:=hI.b.lt
    by_cases he : re = 0
    ·have d1 : (re != 0) = false:=by rw [he]; rfl
     by_cases hr : rr = gl
     ·have d2 : (rr == gl) = true:=beq_iff_eq.2 hr
      obtain ⟨h1,h2⟩:=HSL.out he hr
      cases h1
     ·have d2 : (rr == gl) = false:=beq_eq_false_iff_ne.2 hr
      go_wp2_with fail
      refine (ready_any _).mono ?_
      rintro e w12 ⟨rfl,hb⟩
      replace hI:=hI.below hb
      go_wp2_with fail
      go_ret
      exact ⟨rfl,hI.x⟩
    ·have d1 : (re != 0) = true:=bne_iff_ne.2 he
     go_wp2_with fail
     refine (ready_any _).mono ?_
     rintro e w12 ⟨rfl,hb⟩
     replace hI:=hI.below hb
     go_wp2_with fail
     go_ret
     exact ⟨rfl,hI.x⟩
 ·have d0 : (te != 0) = true:=bne_iff_ne.2 h0
  go_wp2_with fail
  refine (ready_any _).mono ?_
  rintro e w5 ⟨rfl,hb⟩
  replace hI:=hI.below hb
  go_wp2_with fail
  go_ret
  exact ⟨rfl,hI.x⟩

end Go.Proofs.YthchgkdhegaehaaGreatDoor
