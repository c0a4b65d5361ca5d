/- Texts of this seat, laid together: LawLostFound. -/
import Derived.Test.YtjggbpchmbdocaaGreatDoorBl45
import Derived.Test.YtjggbpchmbdocaaGreatDoorBl48
import Derived.Test.YtjggbpchmbdocaaGreatDoorBl40
import Derived.Test.YtjggbpchmbdocaaGreatDoorBl39
/- For every list of numbers the law LostFound returns true and leaves the list as it was: its walk. -/
namespace Go.Proofs.YtjggbpchmbdocaaGreatDoor
set_option linter.unusedVariables false
set_option linter.unusedSimpArgs false
open Go.RowKit Go.Sort

set_option maxHeartbeats 8000000 in
set_option maxRecDepth 100000 in
theorem lostFound_walk (A0 : Option Addr) (n c : Nat) (w : World) (hn : n ≤ 9223372036854775807)
  (hz : ∀ k,k < n → ∃ b off z,A0 = some ⟨b,off,none⟩ ∧ b < w.heap.size ∧ w.cell? ⟨b,off + k,none⟩ = some (.int .i64 z) ∧ I64 z) :
  LawCall 4 A0 n c w:=by
 have hstr:=str_make (c:=c) hn hz
 clear hz
 have hx : Below w.heap.size w (w.alloc (.cells #[.slice A0 n c,.int .i64 0] 25)):=(Below.refl _ _).alloc (Nat.le_refl _) _
 have hz0 : (w.alloc (.cells #[.slice A0 n c,.int .i64 0] 25)).heap.size = w.heap.size + 1:=by simp
 go_enter Tryz.func4,Tryz.ntmps4
 go_wp2_with fail
 generalize w.alloc (.cells #[.slice A0 n c,.int .i64 0] 25) = w0 at *
 clear hn
 refine (mapped_any w.heap.size 0 w0 hstr (by omega)).mono ?_
 clear hstr
 rintro e w1 ⟨A,ca,rs,D,cd,ds,st,gl,TR,c2,tr,rfl,hm1,ht1,htl,hs1,hg1⟩
 obtain ⟨te,hte⟩ : ∃ te,te = tricksE rs ds st gl tr:=⟨_,rfl⟩
 rw [← hte]
 have HTE:=Lib.hid hte
 clear hte
 have hz1:=hg1.size
 have hx1:=(hx.grown hg1 (by omega) (fun k hk => by injection hk with hk; omega)).alloc (by omega) (.cells #[.slice A rs.length ca,.slice D ds.length cd,.string ⟨st.toArray⟩,.string ⟨gl.toArray⟩] 29)
 have hb1 : Blk (w1.alloc (.cells #[.slice A rs.length ca,.slice D ds.length cd,.string ⟨st.toArray⟩,.string ⟨gl.toArray⟩] 29)) w1.heap.size 29 #[.slice A rs.length ca,.slice D ds.length cd,.string ⟨st.toArray⟩,.string ⟨gl.toArray⟩]:=Blk.new _ _ _
 replace hm1:=hm1.alloc (.cells #[.slice A rs.length ca,.slice D ds.length cd,.string ⟨st.toArray⟩,.string ⟨gl.toArray⟩] 29)
 replace ht1:=ht1.alloc (.cells #[.slice A rs.length ca,.slice D ds.length cd,.string ⟨st.toArray⟩,.string ⟨gl.toArray⟩] 29)
 clear hx hs1 hg1 hz0 hz1
 go_upto_region 3 with (fail)
 generalize w1.alloc (.cells #[.slice A rs.length ca,.slice D ds.length cd,.string ⟨st.toArray⟩,.string ⟨gl.toArray⟩] 29) = w2 at *
 generalize w1.heap.size = mb at *
 generalize w0.heap.size = lo at *
 have HS : Hid (∀ W,Below w2.heap.size w2 W → MapW W lo A rs D ds ∧ Row W lo 1 TR tr.length (strs tr) ∧ Blk W mb 29 #[.slice A rs.length ca,.slice D ds.length cd,.string ⟨st.toArray⟩,.string ⟨gl.toArray⟩] ∧ Below w.heap.size w W):=Lib.hid (fun W h => ⟨hm1.below h,ht1.below h,hb1.below h,below_up hx1 h⟩)
 clear hm1 ht1 hb1 hx1
 have hbl : Below w2.heap.size w2 w2:=Below.refl _ _
 obtain ⟨T,hT⟩ : ∃ T,onceT (allT rs ds) = T:=⟨_,rfl⟩
 have HT:=Lib.hid hT
 clear hT
 have hRE:=reached_any lo ca cd lo c2 A rs D ds st gl TR tr w2 (HS.out _ hbl).1 (HS.out _ hbl).2.1 (by omega)
 rw [HT.out,← HTE.out] at hRE
 unfold mapV at hRE
 simp only [encStr] at hRE
 obtain ⟨a0,a1,a2,a3⟩:=(HS.out _ hbl).2.2.1.fourR
 have za:=(HS.out _ hbl).2.2.1.lt
 go_wp2_with fail
 refine hRE.mono ?_
 clear hRE
 rintro e w3 ⟨l,LA,lc,hno,hok,rfl,hol,hll,hb⟩
 have HNO:=Lib.hid hno
 have HOK:=Lib.hid hok
 have hrl:=row_down0 (Row.of_own hol)
 replace hbl:=below_up hbl hb
 clear hb hol hno hok a0 a1 a2 a3 za
 have hLO:=lost_any lo ca cd lo c2 A rs D ds st gl TR tr w3 (HS.out _ hbl).1 (HS.out _ hbl).2.1 (by omega)
 rw [HT.out,← HTE.out] at hLO
 unfold mapV at hLO
 simp only [encStr] at hLO
 obtain ⟨a0,a1,a2,a3⟩:=(HS.out _ hbl).2.2.1.fourR
 have za:=(HS.out _ hbl).2.2.1.lt
 go_wp2_with fail
 refine hLO.mono ?_
 clear hLO
 rintro e w4 ⟨zs,ZA,zc,hnz,hokz,rfl,hop,hzl,hb⟩
 have HNZ:=Lib.hid hnz
 have HOZ:=Lib.hid hokz
 replace hrl:=hrl.below hb
 replace hbl:=below_up hbl hb
 have hte : (te == te) = true:=beq_self_eq_true te
 clear hb hnz hokz a0 a1 a2 a3 za
 by_cases h0 : te = 0
 ·have HM : Hid (mapE rs ds st gl = 0):=Lib.hid (tricks_right (HTE.out.symm.trans h0))
  have HR : Hid (Right rs ds st gl):=Lib.hid (right_of HM.out)
  have HTP : Hid (T.Pairwise (· < ·)):=Lib.hid (by rw [← HT.out]; exact (onceT_spec _).1)
  subst h0
  have hRR:=reachedRooms_any lo ca cd lo c2 A rs D ds st gl TR tr T w4 (HS.out _ hbl).1 HM.out HT.out (HS.out _ hbl).2.1 (by omega)
  obtain ⟨a0,a1,a2,a3⟩:=(HS.out _ hbl).2.2.1.fourR
  have za:=(HS.out _ hbl).2.2.1.lt
  go_wp2_with fail
  refine hRR.mono ?_
  clear hRR
  rintro e w5 ⟨l',LB,lc',rfl,hrl',hup,hmem,hll',hb⟩
  obtain rfl : l = l':=reach_same (HOK.out (by first | rfl | trivial)) hup hmem
  replace hrl:=hrl.below hb
  replace hop:=hop.below hb
  replace hbl:=below_up hbl hb
  clear hb hup hmem a0 a1 a2 a3 za
  go_wp2_with fail
  refine (equalS_any LA LB lc lc' 0 0 l l _ hrl hrl' (by omega) (by omega)).mono ?_
  rintro e w6 ⟨rfl,q,rfl⟩
  rw [decide_eq_true (rfl : l = l)]
  replace hop:=hop.drewN q
  replace hbl:=below_drewN' hbl q
  clear hrl hrl'
  generalize World.drewN _ q = w6 at *
  have hLF:=lostOf_any lo ca cd lo c2 A rs D ds st gl TR tr T w6 (HS.out _ hbl).1 HM.out HT.out (HS.out _ hbl).2.1 (by omega)
  obtain ⟨a0,a1,a2,a3⟩:=(HS.out _ hbl).2.2.1.fourR
  have za:=(HS.out _ hbl).2.2.1.lt
  go_wp2_with fail
  refine hLF.mono ?_
  clear hLF
  rintro e w7 ⟨zs',ZB,zc',rfl,hzr,hzt,hzl',hznd,hzm,hzs,hb⟩
  have hsame:=lost_same HTP.out (HOZ.out (by first | rfl | trivial)) hznd hzm hzs
  replace hop:=hop.below hb
  replace hbl:=below_up hbl hb
  have heq:=eqPts_yes ZA ZB zc zc' 0 0 zs zs' w7 (row_down0 (Row.of_own hop.row)) hzr (fun z hz => ⟨row_down0 (Row.of_own (hop.ths z hz)),by
   have h1:=ThOk.len HTP.out ((HOZ.out (by first | rfl | trivial)).mem HTP.out hz).2.1
   have h2:=HR.out.few
   rw [HT.out] at h2
   omega⟩) (fun z hz => ⟨(hzt z hz).1,by have:=(hzt z hz).2; omega⟩) (by omega) hsame
  clear hb hznd hzm hzs hzt hsame hzr a0 a1 a2 a3 za
  go_wp2_with fail
  refine heq.mono ?_
  clear heq
  rintro e w8 ⟨rfl,hb⟩
  replace hbl:=below_up hbl hb
  clear hb
  go_wp2_with fail
  refine (routed_any _).mono ?_
  rintro e w9 ⟨rfl,hb⟩
  go_wp2_with fail
  go_ret
  exact ⟨rfl,(HS.out _ (below_up hbl hb)).2.2.2⟩
 ·have d0 : (te != 0) = true:=bne_iff_ne.2 h0
  obtain rfl : l = []:=HNO.out h0
  obtain rfl : zs = []:=HNZ.out h0
  go_wp2_with fail
  refine (routed_any _).mono ?_
  rintro e w9 ⟨rfl,hb⟩
  go_wp2_with fail
  go_ret
  exact ⟨rfl,(HS.out _ (below_up hbl hb)).2.2.2⟩
end Go.Proofs.YtjggbpchmbdocaaGreatDoor
