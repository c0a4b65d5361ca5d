/- Texts of this seat, laid together: LawRoutesStay. -/
import Derived.Deep.DeepCutAuto
import Derived.Deep.CutRange
import Derived.Test.YtpialnjfdbfkdaaGreatDoorBs45
import Derived.Test.YtpialnjfdbfkdaaGreatDoorBs28
import Derived.Test.YtpialnjfdbfkdaaGreatDoorBs44
import Derived.Test.YtpialnjfdbfkdaaGreatDoorBs40
import Derived.Test.YtpialnjfdbfkdaaGreatDoorBs41
import Derived.Test.YtpialnjfdbfkdaaGreatDoorBs43
import Derived.Test.YtpialnjfdbfkdaaGreatDoorBs18
import Derived.Test.YtpialnjfdbfkdaaGreatDoorBs46
import Derived.Test.YtpialnjfdbfkdaaGreatDoorBs47
import Derived.Test.YtpialnjfdbfkdaaGreatDoorBs26
/- For every list of numbers the law RoutesStay returns true and leaves the list as it was: its walk. -/
namespace Go.Proofs.YtpialnjfdbfkdaaGreatDoor
set_option linter.unusedVariables false
set_option linter.unusedSimpArgs false
open Go.RowKit Go.Sort

theorem Blk.eightC {W : World} {mb ob : Nat} {t : TypeId} {a b c d a' b' c' d' : Value} (h : Blk W mb t #[a,b,c,d]) (h' : Blk W ob t #[a',b',c',d']) : W.cell? ⟨mb,0,none⟩ = some a ∧ W.cell? ⟨mb,1,none⟩ = some b ∧ W.cell? ⟨mb,2,none⟩ = some c ∧ W.cell? ⟨mb,3,none⟩ = some d ∧ W.cell? ⟨ob,0,none⟩ = some a' ∧ W.cell? ⟨ob,1,none⟩ = some b' ∧ W.cell? ⟨ob,2,none⟩ = some c' ∧ W.cell? ⟨ob,3,none⟩ = some d' :=
 ⟨h.cell 0,h.cell 1,h.cell 2,h.cell 3,h'.cell 0,h'.cell 1,h'.cell 2,h'.cell 3⟩
set_option maxHeartbeats 8000000 in
set_option maxRecDepth 100000 in
theorem routesStay_walk (A0 : Option Addr) (n c : Nat) (w : World) (hn : n ≤ 9223372036854775807)
  (hz : ∀ k,k < n → ∃ b off z,A0 = some ⟨b,off,none⟩ ∧ b < w.heap.size ∧ w.cell? ⟨b,off + k,none⟩ = some (.int .i64 z) ∧ I64 z) :
  LawCall 3 A0 n c w:=by
 obtain ⟨L,hL,hs1,hcl⟩:=strE_make (c:=c) hn hz
 subst hL
 have hb0 : Below w.heap.size w ((w.alloc (.cells #[.slice A0 L.length c,.int .i64 0] 25)).alloc (.cells #[.slice A0 L.length c,.int .i64 0] 25)):=((Below.refl _ _).alloc (Nat.le_refl _) _).alloc (by simp) _
 have hs2 : StrE ((w.alloc (.cells #[.slice A0 L.length c,.int .i64 0] 25)).alloc (.cells #[.slice A0 L.length c,.int .i64 0] 25)) (w.heap.size + 1) w.heap.size L 0:=by
  have:=strE_two (c:=c) hn ((Below.refl w.heap.size w).alloc (Nat.le_refl _) (.cells #[.slice A0 L.length c,.int .i64 0] 25)) hcl
  simpa using this
 have hs1:=hs1.alloc (.cells #[.slice A0 L.length c,.int .i64 0] 25)
 have hz0 : ((w.alloc (.cells #[.slice A0 L.length c,.int .i64 0] 25)).alloc (.cells #[.slice A0 L.length c,.int .i64 0] 25)).heap.size = w.heap.size + 2:=by simp
 clear hz hcl
 go_enter Tryz.func3,Tryz.ntmps3
 go_wp2_with fail
 generalize (w.alloc (.cells #[.slice A0 L.length c,.int .i64 0] 25)).alloc (.cells #[.slice A0 L.length c,.int .i64 0] 25) = w0 at *
 refine (rightMap_ex w.heap.size 0 L w0 hs1 (by omega)).mono ?_
 rintro e w1 ⟨A,ca,rs,D,cd,ds,st,gl,rfl,hmo,hrx,hdx,hr2,hr5,hd1,hd9,hst,hgl,⟨hrn,hdn⟩,hs1,hg1⟩
 have hx : Below w.heap.size w w1:=hb0.grown hg1 (by omega) (fun k hk => by injection hk with hk; omega)
 have hs2:=hs2.other hg1 (by omega) (Nat.le_refl _)
 have hz1:=hg1.size
 have hmw:=hmo.toW (by omega) (by omega) hrx.g.b hdx.g.b
 have HM0:=Lib.hid (mapE_G hrx.g hdx.g hr5 hd9 hst.1 hgl.1)
 have HTI:=Lib.hid (T_inG hrx.g hdx.g)
 have HFE:=Lib.hid (few_G hrx.g hdx.g)
 have HD1 : Hid (RoomsX L (0 + 1) rs ∧ DoorsX L (0 + 2 + 3 * rs.length) rs.length ds ∧ rg L 0 2 5 = (rs.length : Int) ∧ rg L (0 + 1 + 3 * rs.length) 1 9 = (ds.length : Int) ∧ sk L (0 + 2 + 3 * rs.length + 10 * ds.length) (names5.take rs.length) = st ∧ sk L (0 + 2 + 3 * rs.length + 10 * ds.length + 1) (names5.take rs.length) = gl):=Lib.hid ⟨hrx,hdx,hrn,hdn,hst.2,hgl.2⟩
 clear hb0 hmo hrx hdx hst hgl hrn hdn hg1
 go_wp2_with fail
 refine (rightMap_ex (w.heap.size + 1) 0 L w1 hs2 (by omega)).mono ?_
 rintro e w2 ⟨A',ca',rs',D',cd',ds',st',gl',rfl,hmo',hrx',hdx',_,hr5',_,hd9',hst',hgl',⟨hrn',hdn'⟩,hs2,hg2⟩
 have hmo2:=hmo'.toW (by omega) (by omega) hrx'.g.b hdx'.g.b
 obtain ⟨hrl,hdl,HRS,HDS⟩ : rs.length = rs'.length ∧ ds.length = ds'.length ∧ Hid (rs.map rmS = rs'.map rmS) ∧ Hid (ds.map drS = ds'.map drS):=by
  obtain ⟨a,b,c,d⟩:=drawn_same HD1.out.1 hrx' HD1.out.2.1 hdx' HD1.out.2.2.1 hrn' HD1.out.2.2.2.1 hdn'
  exact ⟨a,b,Lib.hid c,Lib.hid d⟩
 obtain rfl : st = st':=by rw [← HD1.out.2.2.2.2.1,← hst'.2,hrl,hdl]
 obtain rfl : gl = gl':=by rw [← HD1.out.2.2.2.2.2,← hgl'.2,hrl,hdl]
 rw [← hrl,← hdl] at hs2
 have HRL:=Lib.hid hrl
 have HDL:=Lib.hid hdl
 have hx:=hx.grown hg2 hx.size (fun k hk => by injection hk with hk; omega)
 have hs1:=hs1.other hg2 (by omega) (by omega)
 have hmw:=hmw.grown hg2 (by omega)
 have hmo2:=hmo2.weakX hz1
 have hz2:=hg2.size
 obtain ⟨kp,hkp⟩ : ∃ kp,kp = 0 + 2 + 3 * rs.length + 10 * ds.length + 2:=⟨_,rfl⟩
 have hkb : kp ≤ 200:=by omega
 rw [← hkp] at hs1 hs2
 have hra : rs.length ≤ 5:=hr5
 have hr0 : 0 < rs.length:=by omega
 have hrb : 0 < rs'.length:=by omega
 clear hmo' hrx' hdx' hst' hgl' hrn' hdn' hg2 HD1 hrl hdl hkp hr2 hr5 hd1 hd9 hr5' hd9'
 go_upto_region 3 with (fail)
 have hbm : Blk ((w2.alloc (.cells #[.slice A rs.length ca,.slice D ds.length cd,.string ⟨st.toArray⟩,.string ⟨gl.toArray⟩] 29)).alloc (.cells #[.slice A' rs'.length ca',.slice D' ds'.length cd',.string ⟨st.toArray⟩,.string ⟨gl.toArray⟩] 29)) w2.heap.size 29 #[.slice A rs.length ca,.slice D ds.length cd,.string ⟨st.toArray⟩,.string ⟨gl.toArray⟩]:=(Blk.new _ _ _).alloc _
 have hbo : Blk ((w2.alloc (.cells #[.slice A rs.length ca,.slice D ds.length cd,.string ⟨st.toArray⟩,.string ⟨gl.toArray⟩] 29)).alloc (.cells #[.slice A' rs'.length ca',.slice D' ds'.length cd',.string ⟨st.toArray⟩,.string ⟨gl.toArray⟩] 29)) (w2.heap.size + 1) 29 #[.slice A' rs'.length ca',.slice D' ds'.length cd',.string ⟨st.toArray⟩,.string ⟨gl.toArray⟩]:=Blk.at_ _ (by simp)
 have hmw:=(hmw.alloc (.cells #[.slice A rs.length ca,.slice D ds.length cd,.string ⟨st.toArray⟩,.string ⟨gl.toArray⟩] 29)).alloc (.cells #[.slice A' rs'.length ca',.slice D' ds'.length cd',.string ⟨st.toArray⟩,.string ⟨gl.toArray⟩] 29)
 have hmo2:=(hmo2.alloc (.cells #[.slice A rs.length ca,.slice D ds.length cd,.string ⟨st.toArray⟩,.string ⟨gl.toArray⟩] 29)).alloc (.cells #[.slice A' rs'.length ca',.slice D' ds'.length cd',.string ⟨st.toArray⟩,.string ⟨gl.toArray⟩] 29)
 have hs1:=((hs1.alloc (.cells #[.slice A rs.length ca,.slice D ds.length cd,.string ⟨st.toArray⟩,.string ⟨gl.toArray⟩] 29)).alloc (.cells #[.slice A' rs'.length ca',.slice D' ds'.length cd',.string ⟨st.toArray⟩,.string ⟨gl.toArray⟩] 29)).drew
 have hs2:=((hs2.alloc (.cells #[.slice A rs.length ca,.slice D ds.length cd,.string ⟨st.toArray⟩,.string ⟨gl.toArray⟩] 29)).alloc (.cells #[.slice A' rs'.length ca',.slice D' ds'.length cd',.string ⟨st.toArray⟩,.string ⟨gl.toArray⟩] 29)).drew
 have hx : Below w.heap.size w ((w2.alloc (.cells #[.slice A rs.length ca,.slice D ds.length cd,.string ⟨st.toArray⟩,.string ⟨gl.toArray⟩] 29)).alloc (.cells #[.slice A' rs'.length ca',.slice D' ds'.length cd',.string ⟨st.toArray⟩,.string ⟨gl.toArray⟩] 29)).drew:=(by repeat (first | exact hx | refine Below.alloc ?_ (by first | omega | (simp; omega) | simp) _ | refine below_drewN' ?_ _ | refine Below.drew ?_))
 have hlz : w0.heap.size ≤ ((w2.alloc (.cells #[.slice A rs.length ca,.slice D ds.length cd,.string ⟨st.toArray⟩,.string ⟨gl.toArray⟩] 29)).alloc (.cells #[.slice A' rs'.length ca',.slice D' ds'.length cd',.string ⟨st.toArray⟩,.string ⟨gl.toArray⟩] 29)).heap.size:=by simp; omega
 have hla : w.heap.size + 1 < w0.heap.size:=by omega
 have hma : w.heap.size + 1 < w2.heap.size:=by omega
 clear hz0 hz1 hz2
 generalize w0.heap.size = lo at *
 generalize (w2.alloc (.cells #[.slice A rs.length ca,.slice D ds.length cd,.string ⟨st.toArray⟩,.string ⟨gl.toArray⟩] 29)).alloc (.cells #[.slice A' rs'.length ca',.slice D' ds'.length cd',.string ⟨st.toArray⟩,.string ⟨gl.toArray⟩] 29) = Z at *
 generalize hmb : w2.heap.size = mb at *
 clear hmb
 obtain ⟨ob,hob⟩ : ∃ ob,ob = mb + 1:=⟨_,rfl⟩
 rw [← hob] at hbo ⊢
 have hoa : w.heap.size + 1 < ob:=by omega
 clear hob
 have HZ : Hid (∀ W,KeepX Z.heap.size w.heap.size (w.heap.size + 1) Z W → MapW W lo A rs D ds ∧ MapW W lo A' rs' D' ds' ∧ Blk W mb 29 #[.slice A rs.length ca,.slice D ds.length cd,.string ⟨st.toArray⟩,.string ⟨gl.toArray⟩] ∧ Blk W ob 29 #[.slice A' rs'.length ca',.slice D' ds'.length cd',.string ⟨st.toArray⟩,.string ⟨gl.toArray⟩]):=Lib.hid (fun W h => ⟨hmw.keepX h (by omega) hla,hmo2.keepX h (by omega) hla,hbm.keepX h (by omega) (by omega),hbo.keepX h (by omega) (by omega)⟩)
 have hKX : KeepX Z.heap.size w.heap.size (w.heap.size + 1) Z Z.drew:=(KeepX.refl _ _ _ _).drew
 clear hmw hmo2 hbm hbo
 refine wp_region_held_drew (S:=(fun w' => w'.cell? ⟨mb,0,none⟩ = some (.slice A rs.length ca) ∧ w'.cell? ⟨mb,1,none⟩ = some (.slice D ds.length cd) ∧ w'.cell? ⟨mb,2,none⟩ = some (.string ⟨st.toArray⟩) ∧ w'.cell? ⟨mb,3,none⟩ = some (.string ⟨gl.toArray⟩) ∧ w'.cell? ⟨ob,0,none⟩ = some (.slice A' rs'.length ca') ∧ w'.cell? ⟨ob,1,none⟩ = some (.slice D' ds'.length cd') ∧ w'.cell? ⟨ob,2,none⟩ = some (.string ⟨st.toArray⟩) ∧ w'.cell? ⟨ob,3,none⟩ = some (.string ⟨gl.toArray⟩))) (by kernel_rfl) (Blk.eightC (HZ.out _ hKX).2.2.1 (HZ.out _ hKX).2.2.2) (fun hHeld => ?_)
 generalize Z.drew = Y0 at *
 (refine QT (i:=0) (v:=?_) (by (simp only [Q0,Q2]; rfl)) (by kernel_rfl) (by exact fun _ _ _ h => h) (by rfl) ?_ (by assumption) ?_; (rotate_left 1; (intro w hSw; (try dsimp only at hSw); go_simp); (try with_reducible rfl)); (try simp only [Act.put,Q3,Q4,Q5]))
 (refine QT (i:=1) (v:=?_) (by (simp only [Q0,Q1,Q2]; rfl)) (by kernel_rfl) (by exact fun _ _ _ h => h) (by rfl) ?_ (by assumption) ?_; (rotate_left 1; (intro w hSw; (try dsimp only at hSw); go_simp); (try with_reducible rfl)); (try simp only [Act.put,Q3,Q4,Q5]))
 (refine QT (i:=3) (v:=?_) (by (simp only [Q0,Q1,Q2]; rfl)) (by kernel_rfl) (by exact fun _ _ _ h => h) (by rfl) ?_ (by assumption) ?_; (rotate_left 1; (intro w hSw; (try dsimp only at hSw); go_simp); (try with_reducible rfl)); (try simp only [Act.put,Q3,Q4,Q5]))
 (refine QT (i:=4) (v:=?_) (by (simp only [Q0,Q1,Q2]; rfl)) (by kernel_rfl) (by exact fun _ _ _ h => h) (by rfl) ?_ (by assumption) ?_; (rotate_left 1; (intro w hSw; (try dsimp only at hSw); go_simp); (try with_reducible rfl)); (try simp only [Act.put,Q3,Q4,Q5]))
 refine wpAnyH_ready (rs:=[2]) (by kernel_rfl) (by simp) ?_
 refine AllReadyH.cons rfl (fun K hK => ?_) AllReadyH.nil
 go_simp
 go_at_call 5
 have hcm:=trickList_ex w.heap.size kp lo ca cd L A rs D ds st gl Y0 hs1 (by omega) (HZ.out _ hKX).1 (by omega)
 unfold mapV at hcm
 simp only [encStr] at hcm
 refine hcm.mono ?_
 rintro e Y1 ⟨X,cx,tr,kt,rfl,hox,htl,hte,hkt,hs1n,hg⟩
 clear hcm
 have HTL:=Lib.hid hte
 have hxr:=(Row.of_own hox).weak (show lo ≤ Y0.heap.size from Nat.le_trans hlz hKX.size)
 replace hs2:=hs2.other hg (by omega) (by omega)
 replace hs1:=hs1n
 replace hKX:=hKX.call1 (Nat.le_refl _) hg
 replace hx:=hx.grown hg hx.size (fun k hk => by injection hk with hk; omega)
 clear hox hte hs1n hg
 go_wp2_with fail
 refine hK.out _ _ (Blk.eightC (HZ.out _ hKX).2.2.1 (HZ.out _ hKX).2.2.2) (fun hHeld => ?_)
 clear hK K
 (try simp only [Act.put,Q3,Q4,Q5])
 refine wpAnyH_ready (rs:=[5]) (by kernel_rfl) (by simp) ?_
 refine AllReadyH.cons rfl (fun K hK => ?_) AllReadyH.nil
 go_simp
 go_at_call 5
 have hcm:=trickList_ex (w.heap.size + 1) kp lo ca' cd' L A' rs' D' ds' st gl Y1 hs2 (by omega) (HZ.out _ hKX).2.1 hla
 unfold mapV at hcm
 simp only [encStr] at hcm
 refine hcm.mono ?_
 rintro e Y5 ⟨Y,cy,tr2,kt2,rfl,hoy,_,hte2,_,hs2n,hg⟩
 clear hcm
 obtain ⟨rfl,rfl⟩ : tr = tr2 ∧ kt = kt2:=by
  rw [← allK_same HDS.out] at hte2
  have:=HTL.out.symm.trans hte2
  simpa using this
 have hyr:=(Row.of_own hoy).weak (show lo ≤ Y1.heap.size from Nat.le_trans hlz hKX.size)
 replace hxr:=hxr.grown hg hla
 replace hs1:=hs1.other hg (by omega) (by omega)
 replace hs2:=hs2n
 replace hKX:=hKX.call2 (Nat.le_refl _) hg
 replace hx:=hx.grown hg hx.size (fun k hk => by injection hk with hk; omega)
 clear hoy hte2 hs2n hg
 go_wp2_with fail
 refine hK.out _ _ (Blk.eightC (HZ.out _ hKX).2.2.1 (HZ.out _ hKX).2.2.2) (fun hHeld => ?_)
 clear hK K
 (try simp only [Act.put,Q3,Q4,Q5])
 (refine QT (i:=6) (v:=?_) (by (simp only [Q0,Q1,Q2]; rfl)) (by kernel_rfl) (by exact fun _ _ _ h => h) (by rfl) ?_ (by assumption) ?_; (rotate_left 1; (intro w hSw; (try dsimp only at hSw); go_simp); (try with_reducible rfl)); (try simp only [Act.put,Q3,Q4,Q5]))
 (refine QT (i:=7) (v:=?_) (by (simp only [Q0,Q1,Q2]; rfl)) (by kernel_rfl) (by exact fun _ _ _ h => h) (by rfl) ?_ (by assumption) ?_; (rotate_left 1; (intro w hSw; (try dsimp only at hSw); go_simp); (try with_reducible rfl)); (try simp only [Act.put,Q3,Q4,Q5]))
 refine wpAnyH_done (by kernel_rfl) ?_ _
 have HZ2 : Hid (∀ W,KeepX Y5.heap.size w.heap.size (w.heap.size + 1) Y5 W → (MapW W lo A rs D ds ∧ MapW W lo A' rs' D' ds' ∧ Blk W mb 29 #[.slice A rs.length ca,.slice D ds.length cd,.string ⟨st.toArray⟩,.string ⟨gl.toArray⟩] ∧ Blk W ob 29 #[.slice A' rs'.length ca',.slice D' ds'.length cd',.string ⟨st.toArray⟩,.string ⟨gl.toArray⟩]) ∧ Row W lo 1 X tr.length (strs tr) ∧ Row W lo 1 Y tr.length (strs tr)):=Lib.hid (fun W h => by
  have q:=HZ.out _ hKX
  exact ⟨⟨q.1.keepX h (by omega) hla,q.2.1.keepX h (by omega) hla,q.2.2.1.keepX h (by omega) (by omega),q.2.2.2.keepX h (by omega) (by omega)⟩,hxr.keepX h (by omega) hla,hyr.keepX h (by omega) hla⟩)
 have hl5 : lo ≤ Y5.heap.size:=Nat.le_trans hlz hKX.size
 clear HZ hKX hxr hyr hlz HTL
 go_upto_region 4 with (fail)
 have HPF : Hid (0 < rs.length ∧ rs.length ≤ 5 ∧ (onceT (allT rs ds)).length ≤ 3 ∧ kt ≤ 1300 ∧ lo ≤ Y5.heap.size ∧ w.heap.size + 1 < lo):=Lib.hid ⟨hr0,hra,HFE.out,by omega,hl5,hla⟩
 go_cut [9,10] from 45 to 50 (fun u v wx => ∃ (room : List UInt8) (th : List (List UInt8)) (PA QA : Option Addr) (pc qc pb qb : Nat),u = .pointer (some ⟨pb,0,none⟩) ∧ v = .pointer (some ⟨qb,0,none⟩) ∧ Blk wx pb 34 #[.string ⟨room.toArray⟩,.slice PA th.length pc] ∧ Blk wx qb 34 #[.string ⟨room.toArray⟩,.slice QA th.length qc] ∧ Row wx lo 1 PA th.length (strs th) ∧ Row wx lo 1 QA th.length (strs th) ∧ Hid (th.length ≤ 1000 ∧ ∀ s ∈ th,s.length ≤ 1000000) ∧ (MapW wx lo A rs D ds ∧ MapW wx lo A' rs' D' ds' ∧ Blk wx mb 29 #[.slice A rs.length ca,.slice D ds.length cd,.string ⟨st.toArray⟩,.string ⟨gl.toArray⟩] ∧ Blk wx ob 29 #[.slice A' rs'.length ca',.slice D' ds'.length cd',.string ⟨st.toArray⟩,.string ⟨gl.toArray⟩]) ∧ (Row wx lo 1 X tr.length (strs tr) ∧ Row wx lo 1 Y tr.length (strs tr)) ∧ Below w.heap.size w wx)
 case first =>
  have hs1:=hs1.drew
  have hs2:=hs2.drew
  have hKX : KeepB w w.heap.size (w.heap.size + 1) Y5 Y5.drew:=⟨(KeepX.refl _ _ _ _).drew,(by repeat (first | exact hx | refine Below.alloc ?_ (by first | omega | (simp; omega) | simp) _ | refine below_drewN' ?_ _ | refine Below.drew ?_))⟩
  clear hx
  have HKS:=Lib.hid (keys_same HRS.out)
  have HTS:=Lib.hid (congrArg onceT (allT_same HRS.out HDS.out))
  have HZ4 : Hid (∀ W,KeepB w w.heap.size (w.heap.size + 1) Y5 W → (fun w' => w'.cell? ⟨mb,0,none⟩ = some (.slice A rs.length ca) ∧ w'.cell? ⟨mb,1,none⟩ = some (.slice D ds.length cd) ∧ w'.cell? ⟨mb,2,none⟩ = some (.string ⟨st.toArray⟩) ∧ w'.cell? ⟨mb,3,none⟩ = some (.string ⟨gl.toArray⟩) ∧ w'.cell? ⟨ob,0,none⟩ = some (.slice A' rs'.length ca') ∧ w'.cell? ⟨ob,1,none⟩ = some (.slice D' ds'.length cd') ∧ w'.cell? ⟨ob,2,none⟩ = some (.string ⟨st.toArray⟩) ∧ w'.cell? ⟨ob,3,none⟩ = some (.string ⟨gl.toArray⟩)) W):=Lib.hid (fun W h => Blk.eightC (HZ2.out _ h.k).1.2.2.1 (HZ2.out _ h.k).1.2.2.2)
  have HP1 : Hid (∀ W,KeepB w w.heap.size (w.heap.size + 1) Y5 W → StrE W w.heap.size w.heap.size L kt → Calls Tryz.prog 6 #[.pointer (some ⟨w.heap.size,0,none⟩),.agg #[.slice A rs.length ca,.slice D ds.length cd,.string ⟨st.toArray⟩,.string ⟨gl.toArray⟩]] W (PoX W w.heap.size w.heap.size L kt (rs.map RoomE.key) (onceT (allT rs ds)))):=Lib.hid (fun W h hs => by
   have hcm:=pointOf_ex w.heap.size kt lo ca cd L A rs D ds st gl W hs (by have:=HPF.out; omega) (HZ2.out _ h.k).1.1 (by omega) hr0 (by have:=HPF.out; omega)
   unfold mapV at hcm
   simp only [encStr] at hcm
   exact hcm)
  have HP2 : Hid (∀ W,KeepB w w.heap.size (w.heap.size + 1) Y5 W → StrE W (w.heap.size + 1) w.heap.size L kt → Calls Tryz.prog 6 #[.pointer (some ⟨w.heap.size + 1,0,none⟩),.agg #[.slice A' rs'.length ca',.slice D' ds'.length cd',.string ⟨st.toArray⟩,.string ⟨gl.toArray⟩]] W (PoX W (w.heap.size + 1) w.heap.size L kt (rs.map RoomE.key) (onceT (allT rs ds)))):=Lib.hid (fun W h hs => by
   have hcm:=pointOf_ex (w.heap.size + 1) kt lo ca' cd' L A' rs' D' ds' st gl W hs (by have:=HPF.out; omega) (HZ2.out _ h.k).1.2.1 hla hrb (by rw [← HTS.out]; have:=HPF.out; omega)
   rw [← HKS.out,← HTS.out] at hcm
   unfold mapV at hcm
   simp only [encStr] at hcm
   exact hcm)
  go_wp2_with fail
  refine wp_region_held_drew (S:=(fun w' => w'.cell? ⟨mb,0,none⟩ = some (.slice A rs.length ca) ∧ w'.cell? ⟨mb,1,none⟩ = some (.slice D ds.length cd) ∧ w'.cell? ⟨mb,2,none⟩ = some (.string ⟨st.toArray⟩) ∧ w'.cell? ⟨mb,3,none⟩ = some (.string ⟨gl.toArray⟩) ∧ w'.cell? ⟨ob,0,none⟩ = some (.slice A' rs'.length ca') ∧ w'.cell? ⟨ob,1,none⟩ = some (.slice D' ds'.length cd') ∧ w'.cell? ⟨ob,2,none⟩ = some (.string ⟨st.toArray⟩) ∧ w'.cell? ⟨ob,3,none⟩ = some (.string ⟨gl.toArray⟩))) (by kernel_rfl) (HZ4.out _ hKX) (fun hHeld => ?_)
  have hkz:=hKX.z
  generalize Y5.drew = V at *
  (refine QT (i:=0) (v:=?_) (by (simp only [Q0,Q2]; rfl)) (by kernel_rfl) (by exact fun _ _ _ h => h) (by rfl) ?_ (by assumption) ?_; (rotate_left 1; (intro w hSw; (try dsimp only at hSw); go_simp); (try with_reducible rfl)); (try simp only [Act.put,Q3,Q4,Q5]))
  (refine QT (i:=1) (v:=?_) (by (simp only [Q0,Q1,Q2]; rfl)) (by kernel_rfl) (by exact fun _ _ _ h => h) (by rfl) ?_ (by assumption) ?_; (rotate_left 1; (intro w hSw; (try dsimp only at hSw); go_simp); (try with_reducible rfl)); (try simp only [Act.put,Q3,Q4,Q5]))
  (refine QT (i:=3) (v:=?_) (by (simp only [Q0,Q1,Q2]; rfl)) (by kernel_rfl) (by exact fun _ _ _ h => h) (by rfl) ?_ (by assumption) ?_; (rotate_left 1; (intro w hSw; (try dsimp only at hSw); go_simp); (try with_reducible rfl)); (try simp only [Act.put,Q3,Q4,Q5]))
  (refine QT (i:=4) (v:=?_) (by (simp only [Q0,Q1,Q2]; rfl)) (by kernel_rfl) (by exact fun _ _ _ h => h) (by rfl) ?_ (by assumption) ?_; (rotate_left 1; (intro w hSw; (try dsimp only at hSw); go_simp); (try with_reducible rfl)); (try simp only [Act.put,Q3,Q4,Q5]))
  refine wpAnyH_ready (rs:=[2,6,7]) (by kernel_rfl) (by simp) ?_
  refine AllReadyH.cons rfl (fun K hK => ?_) (AllReadyH.cons rfl (fun K hK => ?_) (AllReadyH.cons rfl (fun K hK => ?_) AllReadyH.nil))
  focus (
   go_simp
   go_at_call 6
   refine (HP1.out V hKX hs1).mono ?_
   rintro e V2 ⟨room,PA,pc,th,kq,rfl,hop,htl,hpe,hkq,hsn,hg⟩
   have HPE:=Lib.hid hpe
   replace hs2:=hs2.other hg (by omega) (by omega)
   replace hKX:=hKX.call1 hg (Nat.le_refl _)
   replace hop:=own_down9 hop (show Y5.heap.size ≤ V.heap.size from hkz)
   replace hkz:=hKX.z
   clear hpe hsn hg
   go_wp2_with fail
   refine hK.out _ _ (HZ4.out _ hKX) (fun hHeld => ?_)
   clear hK K
   (try simp only [Act.put,Q3,Q4,Q5])
   refine wpAnyH_ready (rs:=[5,6,7]) (by kernel_rfl) (by simp) ?_
   refine AllReadyH.cons rfl (fun K hK => ?_) (AllReadyH.cons rfl (fun K hK => ?_) (AllReadyH.cons rfl (fun K hK => ?_) AllReadyH.nil))
   focus (
    go_simp
    go_at_call 6
    refine (HP2.out V2 hKX hs2).mono ?_
    rintro e V5 ⟨room2,QA,qc,th2,kq2,rfl,hoq,_,hpe2,_,hsn,hg⟩
    obtain ⟨⟨rfl,rfl⟩,rfl⟩ : (room = room2 ∧ th = th2) ∧ kq = kq2:=by
     have:=HPE.out.symm.trans hpe2
     simpa using this
    clear hpe2
    replace hKX:=hKX.call2 hg (Nat.le_succ _)
    replace hop:=own_grown hop hg (by have:=HPF.out; omega)
    replace hoq:=own_down9 hoq (show Y5.heap.size ≤ V2.heap.size from hkz)
    replace hkz:=hKX.z
    clear  hsn hg
    go_wp2_with fail
    refine hK.out _ _ (HZ4.out _ hKX) (fun hHeld => ?_)
    clear hK K
    (try simp only [Act.put,Q3,Q4,Q5])
    refine wpAnyH_ready (rs:=[6,7]) (by kernel_rfl) (by simp) ?_
    refine AllReadyH.cons rfl (fun K hK => ?_) (AllReadyH.cons rfl (fun K hK => ?_) AllReadyH.nil)
    focus (
     go_simp
     have b6 : Blk (V5.alloc (.cells #[.string ⟨#[]⟩,.slice none 0 0] 34)) V5.heap.size 34 #[.string ⟨#[]⟩,.slice none 0 0]:=Blk.new _ _ _
     have hba : Below V5.heap.size V5 (V5.alloc (.cells #[.string ⟨#[]⟩,.slice none 0 0] 34)):=(Below.refl _ _).alloc (Nat.le_refl _) _
     have l6:=hkz
     replace hop:=own_keep hop hba
     replace hoq:=own_keep hoq hba
     replace hKX:=hKX.below hba
     replace hkz:=hKX.z
     clear hba
     generalize V5.alloc (.cells #[.string ⟨#[]⟩,.slice none 0 0] 34) = V6 at *
     generalize V5.heap.size = pb at *
     refine hK.out _ _ (HZ4.out _ hKX) (fun hHeld => ?_)
     clear hK K
     (try simp only [Act.put,Q3,Q4,Q5])
     refine wpAnyH_ready (rs:=[7]) (by kernel_rfl) (by simp) ?_
     refine AllReadyH.cons rfl (fun K hK => ?_) AllReadyH.nil
     go_simp
     have b7 : Blk (V6.alloc (.cells #[.string ⟨#[]⟩,.slice none 0 0] 34)) V6.heap.size 34 #[.string ⟨#[]⟩,.slice none 0 0]:=Blk.new _ _ _
     have hba : Below V6.heap.size V6 (V6.alloc (.cells #[.string ⟨#[]⟩,.slice none 0 0] 34)):=(Below.refl _ _).alloc (Nat.le_refl _) _
     have l7:=hkz
     have hpq:=b6.lt
     replace b6:=b6.below hba
     replace hop:=own_keep hop hba
     replace hoq:=own_keep hoq hba
     replace hKX:=hKX.below hba
     replace hkz:=hKX.z
     clear hba
     generalize V6.alloc (.cells #[.string ⟨#[]⟩,.slice none 0 0] 34) = V7 at *
     generalize V6.heap.size = qb at *
     refine hK.out _ _ (HZ4.out _ hKX) (fun hHeld => ?_)
     clear hK K
     (try simp only [Act.put,Q3,Q4,Q5])
     generalize V7 = U at *)
    rotate_left 1
    focus (
     go_simp
     have b7 : Blk (V5.alloc (.cells #[.string ⟨#[]⟩,.slice none 0 0] 34)) V5.heap.size 34 #[.string ⟨#[]⟩,.slice none 0 0]:=Blk.new _ _ _
     have hba : Below V5.heap.size V5 (V5.alloc (.cells #[.string ⟨#[]⟩,.slice none 0 0] 34)):=(Below.refl _ _).alloc (Nat.le_refl _) _
     have l7:=hkz
     replace hop:=own_keep hop hba
     replace hoq:=own_keep hoq hba
     replace hKX:=hKX.below hba
     replace hkz:=hKX.z
     clear hba
     generalize V5.alloc (.cells #[.string ⟨#[]⟩,.slice none 0 0] 34) = V7 at *
     generalize V5.heap.size = qb at *
     refine hK.out _ _ (HZ4.out _ hKX) (fun hHeld => ?_)
     clear hK K
     (try simp only [Act.put,Q3,Q4,Q5])
     refine wpAnyH_ready (rs:=[6]) (by kernel_rfl) (by simp) ?_
     refine AllReadyH.cons rfl (fun K hK => ?_) AllReadyH.nil
     go_simp
     have b6 : Blk (V7.alloc (.cells #[.string ⟨#[]⟩,.slice none 0 0] 34)) V7.heap.size 34 #[.string ⟨#[]⟩,.slice none 0 0]:=Blk.new _ _ _
     have hba : Below V7.heap.size V7 (V7.alloc (.cells #[.string ⟨#[]⟩,.slice none 0 0] 34)):=(Below.refl _ _).alloc (Nat.le_refl _) _
     have l6:=hkz
     have hpq:=b7.lt
     replace b7:=b7.below hba
     replace hop:=own_keep hop hba
     replace hoq:=own_keep hoq hba
     replace hKX:=hKX.below hba
     replace hkz:=hKX.z
     clear hba
     generalize V7.alloc (.cells #[.string ⟨#[]⟩,.slice none 0 0] 34) = V6 at *
     generalize V7.heap.size = pb at *
     refine hK.out _ _ (HZ4.out _ hKX) (fun hHeld => ?_)
     clear hK K
     (try simp only [Act.put,Q3,Q4,Q5])
     generalize V6 = U at *)
    rotate_left 1)
   rotate_left 2
   focus (
    go_simp
    have b6 : Blk (V2.alloc (.cells #[.string ⟨#[]⟩,.slice none 0 0] 34)) V2.heap.size 34 #[.string ⟨#[]⟩,.slice none 0 0]:=Blk.new _ _ _
    have hba : Below V2.heap.size V2 (V2.alloc (.cells #[.string ⟨#[]⟩,.slice none 0 0] 34)):=(Below.refl _ _).alloc (Nat.le_refl _) _
    have l6:=hkz
    replace hop:=own_keep hop hba
    replace hs2:=hs2.keep hba
    replace hKX:=hKX.below hba
    replace hkz:=hKX.z
    clear hba
    generalize V2.alloc (.cells #[.string ⟨#[]⟩,.slice none 0 0] 34) = V6 at *
    generalize V2.heap.size = pb at *
    refine hK.out _ _ (HZ4.out _ hKX) (fun hHeld => ?_)
    clear hK K
    (try simp only [Act.put,Q3,Q4,Q5])
    refine wpAnyH_ready (rs:=[5,7]) (by kernel_rfl) (by simp) ?_
    refine AllReadyH.cons rfl (fun K hK => ?_) (AllReadyH.cons rfl (fun K hK => ?_) AllReadyH.nil)
    focus (
     go_simp
     go_at_call 6
     refine (HP2.out V6 hKX hs2).mono ?_
     rintro e V5 ⟨room2,QA,qc,th2,kq2,rfl,hoq,_,hpe2,_,hsn,hg⟩
     obtain ⟨⟨rfl,rfl⟩,rfl⟩ : (room = room2 ∧ th = th2) ∧ kq = kq2:=by
      have:=HPE.out.symm.trans hpe2
      simpa using this
     clear hpe2
     replace hKX:=hKX.call2 hg (Nat.le_succ _)
     replace hop:=own_grown hop hg (by have:=HPF.out; omega)
     replace b6:=b6.grown hg (by have:=HPF.out; omega)
     replace hoq:=own_down9 hoq (show Y5.heap.size ≤ V6.heap.size from hkz)
     replace hkz:=hKX.z
     clear  hsn hg
     go_wp2_with fail
     refine hK.out _ _ (HZ4.out _ hKX) (fun hHeld => ?_)
     clear hK K
     (try simp only [Act.put,Q3,Q4,Q5])
     refine wpAnyH_ready (rs:=[7]) (by kernel_rfl) (by simp) ?_
     refine AllReadyH.cons rfl (fun K hK => ?_) AllReadyH.nil
     go_simp
     have b7 : Blk (V5.alloc (.cells #[.string ⟨#[]⟩,.slice none 0 0] 34)) V5.heap.size 34 #[.string ⟨#[]⟩,.slice none 0 0]:=Blk.new _ _ _
     have hba : Below V5.heap.size V5 (V5.alloc (.cells #[.string ⟨#[]⟩,.slice none 0 0] 34)):=(Below.refl _ _).alloc (Nat.le_refl _) _
     have l7:=hkz
     have hpq:=b6.lt
     replace b6:=b6.below hba
     replace hop:=own_keep hop hba
     replace hoq:=own_keep hoq hba
     replace hKX:=hKX.below hba
     replace hkz:=hKX.z
     clear hba
     generalize V5.alloc (.cells #[.string ⟨#[]⟩,.slice none 0 0] 34) = V7 at *
     generalize V5.heap.size = qb at *
     refine hK.out _ _ (HZ4.out _ hKX) (fun hHeld => ?_)
     clear hK K
     (try simp only [Act.put,Q3,Q4,Q5])
     generalize V7 = U at *)
    rotate_left 1
    focus (
     go_simp
     have b7 : Blk (V6.alloc (.cells #[.string ⟨#[]⟩,.slice none 0 0] 34)) V6.heap.size 34 #[.string ⟨#[]⟩,.slice none 0 0]:=Blk.new _ _ _
     have hba : Below V6.heap.size V6 (V6.alloc (.cells #[.string ⟨#[]⟩,.slice none 0 0] 34)):=(Below.refl _ _).alloc (Nat.le_refl _) _
     have l7:=hkz
     have hpq:=b6.lt
     replace b6:=b6.below hba
     replace hop:=own_keep hop hba
     replace hs2:=hs2.keep hba
     replace hKX:=hKX.below hba
     replace hkz:=hKX.z
     clear hba
     generalize V6.alloc (.cells #[.string ⟨#[]⟩,.slice none 0 0] 34) = V7 at *
     generalize V6.heap.size = qb at *
     refine hK.out _ _ (HZ4.out _ hKX) (fun hHeld => ?_)
     clear hK K
     (try simp only [Act.put,Q3,Q4,Q5])
     refine wpAnyH_ready (rs:=[5]) (by kernel_rfl) (by simp) ?_
     refine AllReadyH.cons rfl (fun K hK => ?_) AllReadyH.nil
     go_simp
     go_at_call 6
     refine (HP2.out V7 hKX hs2).mono ?_
     rintro e V5 ⟨room2,QA,qc,th2,kq2,rfl,hoq,_,hpe2,_,hsn,hg⟩
     obtain ⟨⟨rfl,rfl⟩,rfl⟩ : (room = room2 ∧ th = th2) ∧ kq = kq2:=by
      have:=HPE.out.symm.trans hpe2
      simpa using this
     clear hpe2
     replace hKX:=hKX.call2 hg (Nat.le_succ _)
     replace hop:=own_grown hop hg (by have:=HPF.out; omega)
     replace b6:=b6.grown hg (by have:=HPF.out; omega)
     replace b7:=b7.grown hg (by have:=HPF.out; omega)
     replace hoq:=own_down9 hoq (show Y5.heap.size ≤ V7.heap.size from hkz)
     replace hkz:=hKX.z
     clear  hsn hg
     go_wp2_with fail
     refine hK.out _ _ (HZ4.out _ hKX) (fun hHeld => ?_)
     clear hK K
     (try simp only [Act.put,Q3,Q4,Q5])
     generalize V5 = U at *)
    rotate_left 1)
   rotate_left 2
   focus (
    go_simp
    have b7 : Blk (V2.alloc (.cells #[.string ⟨#[]⟩,.slice none 0 0] 34)) V2.heap.size 34 #[.string ⟨#[]⟩,.slice none 0 0]:=Blk.new _ _ _
    have hba : Below V2.heap.size V2 (V2.alloc (.cells #[.string ⟨#[]⟩,.slice none 0 0] 34)):=(Below.refl _ _).alloc (Nat.le_refl _) _
    have l7:=hkz
    replace hop:=own_keep hop hba
    replace hs2:=hs2.keep hba
    replace hKX:=hKX.below hba
    replace hkz:=hKX.z
    clear hba
    generalize V2.alloc (.cells #[.string ⟨#[]⟩,.slice none 0 0] 34) = V7 at *
    generalize V2.heap.size = qb at *
    refine hK.out _ _ (HZ4.out _ hKX) (fun hHeld => ?_)
    clear hK K
    (try simp only [Act.put,Q3,Q4,Q5])
    refine wpAnyH_ready (rs:=[5,6]) (by kernel_rfl) (by simp) ?_
    refine AllReadyH.cons rfl (fun K hK => ?_) (AllReadyH.cons rfl (fun K hK => ?_) AllReadyH.nil)
    focus (
     go_simp
     go_at_call 6
     refine (HP2.out V7 hKX hs2).mono ?_
     rintro e V5 ⟨room2,QA,qc,th2,kq2,rfl,hoq,_,hpe2,_,hsn,hg⟩
     obtain ⟨⟨rfl,rfl⟩,rfl⟩ : (room = room2 ∧ th = th2) ∧ kq = kq2:=by
      have:=HPE.out.symm.trans hpe2
      simpa using this
     clear hpe2
     replace hKX:=hKX.call2 hg (Nat.le_succ _)
     replace hop:=own_grown hop hg (by have:=HPF.out; omega)
     replace b7:=b7.grown hg (by have:=HPF.out; omega)
     replace hoq:=own_down9 hoq (show Y5.heap.size ≤ V7.heap.size from hkz)
     replace hkz:=hKX.z
     clear  hsn hg
     go_wp2_with fail
     refine hK.out _ _ (HZ4.out _ hKX) (fun hHeld => ?_)
     clear hK K
     (try simp only [Act.put,Q3,Q4,Q5])
     refine wpAnyH_ready (rs:=[6]) (by kernel_rfl) (by simp) ?_
     refine AllReadyH.cons rfl (fun K hK => ?_) AllReadyH.nil
     go_simp
     have b6 : Blk (V5.alloc (.cells #[.string ⟨#[]⟩,.slice none 0 0] 34)) V5.heap.size 34 #[.string ⟨#[]⟩,.slice none 0 0]:=Blk.new _ _ _
     have hba : Below V5.heap.size V5 (V5.alloc (.cells #[.string ⟨#[]⟩,.slice none 0 0] 34)):=(Below.refl _ _).alloc (Nat.le_refl _) _
     have l6:=hkz
     have hpq:=b7.lt
     replace b7:=b7.below hba
     replace hop:=own_keep hop hba
     replace hoq:=own_keep hoq hba
     replace hKX:=hKX.below hba
     replace hkz:=hKX.z
     clear hba
     generalize V5.alloc (.cells #[.string ⟨#[]⟩,.slice none 0 0] 34) = V6 at *
     generalize V5.heap.size = pb at *
     refine hK.out _ _ (HZ4.out _ hKX) (fun hHeld => ?_)
     clear hK K
     (try simp only [Act.put,Q3,Q4,Q5])
     generalize V6 = U at *)
    rotate_left 1
    focus (
     go_simp
     have b6 : Blk (V7.alloc (.cells #[.string ⟨#[]⟩,.slice none 0 0] 34)) V7.heap.size 34 #[.string ⟨#[]⟩,.slice none 0 0]:=Blk.new _ _ _
     have hba : Below V7.heap.size V7 (V7.alloc (.cells #[.string ⟨#[]⟩,.slice none 0 0] 34)):=(Below.refl _ _).alloc (Nat.le_refl _) _
     have l6:=hkz
     have hpq:=b7.lt
     replace b7:=b7.below hba
     replace hop:=own_keep hop hba
     replace hs2:=hs2.keep hba
     replace hKX:=hKX.below hba
     replace hkz:=hKX.z
     clear hba
     generalize V7.alloc (.cells #[.string ⟨#[]⟩,.slice none 0 0] 34) = V6 at *
     generalize V7.heap.size = pb at *
     refine hK.out _ _ (HZ4.out _ hKX) (fun hHeld => ?_)
     clear hK K
     (try simp only [Act.put,Q3,Q4,Q5])
     refine wpAnyH_ready (rs:=[5]) (by kernel_rfl) (by simp) ?_
     refine AllReadyH.cons rfl (fun K hK => ?_) AllReadyH.nil
     go_simp
     go_at_call 6
     refine (HP2.out V6 hKX hs2).mono ?_
     rintro e V5 ⟨room2,QA,qc,th2,kq2,rfl,hoq,_,hpe2,_,hsn,hg⟩
     obtain ⟨⟨rfl,rfl⟩,rfl⟩ : (room = room2 ∧ th = th2) ∧ kq = kq2:=by
      have:=HPE.out.symm.trans hpe2
      simpa using this
     clear hpe2
     replace hKX:=hKX.call2 hg (Nat.le_succ _)
     replace hop:=own_grown hop hg (by have:=HPF.out; omega)
     replace b6:=b6.grown hg (by have:=HPF.out; omega)
     replace b7:=b7.grown hg (by have:=HPF.out; omega)
     replace hoq:=own_down9 hoq (show Y5.heap.size ≤ V6.heap.size from hkz)
     replace hkz:=hKX.z
     clear  hsn hg
     go_wp2_with fail
     refine hK.out _ _ (HZ4.out _ hKX) (fun hHeld => ?_)
     clear hK K
     (try simp only [Act.put,Q3,Q4,Q5])
     generalize V5 = U at *)
    rotate_left 1)
   rotate_left 2)
  rotate_left 6
  focus (
   go_simp
   have b6 : Blk (V.alloc (.cells #[.string ⟨#[]⟩,.slice none 0 0] 34)) V.heap.size 34 #[.string ⟨#[]⟩,.slice none 0 0]:=Blk.new _ _ _
   have hba : Below V.heap.size V (V.alloc (.cells #[.string ⟨#[]⟩,.slice none 0 0] 34)):=(Below.refl _ _).alloc (Nat.le_refl _) _
   have l6:=hkz
   replace hs1:=hs1.keep hba
   replace hs2:=hs2.keep hba
   replace hKX:=hKX.below hba
   replace hkz:=hKX.z
   clear hba
   generalize V.alloc (.cells #[.string ⟨#[]⟩,.slice none 0 0] 34) = V6 at *
   generalize V.heap.size = pb at *
   refine hK.out _ _ (HZ4.out _ hKX) (fun hHeld => ?_)
   clear hK K
   (try simp only [Act.put,Q3,Q4,Q5])
   refine wpAnyH_ready (rs:=[2,7]) (by kernel_rfl) (by simp) ?_
   refine AllReadyH.cons rfl (fun K hK => ?_) (AllReadyH.cons rfl (fun K hK => ?_) AllReadyH.nil)
   focus (
    go_simp
    go_at_call 6
    refine (HP1.out V6 hKX hs1).mono ?_
    rintro e V2 ⟨room,PA,pc,th,kq,rfl,hop,htl,hpe,hkq,hsn,hg⟩
    have HPE:=Lib.hid hpe
    replace hs2:=hs2.other hg (by omega) (by omega)
    replace hKX:=hKX.call1 hg (Nat.le_refl _)
    replace b6:=b6.grown hg (by have:=HPF.out; omega)
    replace hop:=own_down9 hop (show Y5.heap.size ≤ V6.heap.size from hkz)
    replace hkz:=hKX.z
    clear hpe hsn hg
    go_wp2_with fail
    refine hK.out _ _ (HZ4.out _ hKX) (fun hHeld => ?_)
    clear hK K
    (try simp only [Act.put,Q3,Q4,Q5])
    refine wpAnyH_ready (rs:=[5,7]) (by kernel_rfl) (by simp) ?_
    refine AllReadyH.cons rfl (fun K hK => ?_) (AllReadyH.cons rfl (fun K hK => ?_) AllReadyH.nil)
    focus (
     go_simp
     go_at_call 6
     refine (HP2.out V2 hKX hs2).mono ?_
     rintro e V5 ⟨room2,QA,qc,th2,kq2,rfl,hoq,_,hpe2,_,hsn,hg⟩
     obtain ⟨⟨rfl,rfl⟩,rfl⟩ : (room = room2 ∧ th = th2) ∧ kq = kq2:=by
      have:=HPE.out.symm.trans hpe2
      simpa using this
     clear hpe2
     replace hKX:=hKX.call2 hg (Nat.le_succ _)
     replace hop:=own_grown hop hg (by have:=HPF.out; omega)
     replace b6:=b6.grown hg (by have:=HPF.out; omega)
     replace hoq:=own_down9 hoq (show Y5.heap.size ≤ V2.heap.size from hkz)
     replace hkz:=hKX.z
     clear  hsn hg
     go_wp2_with fail
     refine hK.out _ _ (HZ4.out _ hKX) (fun hHeld => ?_)
     clear hK K
     (try simp only [Act.put,Q3,Q4,Q5])
     refine wpAnyH_ready (rs:=[7]) (by kernel_rfl) (by simp) ?_
     refine AllReadyH.cons rfl (fun K hK => ?_) AllReadyH.nil
     go_simp
     have b7 : Blk (V5.alloc (.cells #[.string ⟨#[]⟩,.slice none 0 0] 34)) V5.heap.size 34 #[.string ⟨#[]⟩,.slice none 0 0]:=Blk.new _ _ _
     have hba : Below V5.heap.size V5 (V5.alloc (.cells #[.string ⟨#[]⟩,.slice none 0 0] 34)):=(Below.refl _ _).alloc (Nat.le_refl _) _
     have l7:=hkz
     have hpq:=b6.lt
     replace b6:=b6.below hba
     replace hop:=own_keep hop hba
     replace hoq:=own_keep hoq hba
     replace hKX:=hKX.below hba
     replace hkz:=hKX.z
     clear hba
     generalize V5.alloc (.cells #[.string ⟨#[]⟩,.slice none 0 0] 34) = V7 at *
     generalize V5.heap.size = qb at *
     refine hK.out _ _ (HZ4.out _ hKX) (fun hHeld => ?_)
     clear hK K
     (try simp only [Act.put,Q3,Q4,Q5])
     generalize V7 = U at *)
    rotate_left 1
    focus (
     go_simp
     have b7 : Blk (V2.alloc (.cells #[.string ⟨#[]⟩,.slice none 0 0] 34)) V2.heap.size 34 #[.string ⟨#[]⟩,.slice none 0 0]:=Blk.new _ _ _
     have hba : Below V2.heap.size V2 (V2.alloc (.cells #[.string ⟨#[]⟩,.slice none 0 0] 34)):=(Below.refl _ _).alloc (Nat.le_refl _) _
     have l7:=hkz
     have hpq:=b6.lt
     replace b6:=b6.below hba
     replace hop:=own_keep hop hba
     replace hs2:=hs2.keep hba
     replace hKX:=hKX.below hba
     replace hkz:=hKX.z
     clear hba
     generalize V2.alloc (.cells #[.string ⟨#[]⟩,.slice none 0 0] 34) = V7 at *
     generalize V2.heap.size = qb at *
     refine hK.out _ _ (HZ4.out _ hKX) (fun hHeld => ?_)
     clear hK K
     (try simp only [Act.put,Q3,Q4,Q5])
     refine wpAnyH_ready (rs:=[5]) (by kernel_rfl) (by simp) ?_
     refine AllReadyH.cons rfl (fun K hK => ?_) AllReadyH.nil
     go_simp
     go_at_call 6
     refine (HP2.out V7 hKX hs2).mono ?_
     rintro e V5 ⟨room2,QA,qc,th2,kq2,rfl,hoq,_,hpe2,_,hsn,hg⟩
     obtain ⟨⟨rfl,rfl⟩,rfl⟩ : (room = room2 ∧ th = th2) ∧ kq = kq2:=by
      have:=HPE.out.symm.trans hpe2
      simpa using this
     clear hpe2
     replace hKX:=hKX.call2 hg (Nat.le_succ _)
     replace hop:=own_grown hop hg (by have:=HPF.out; omega)
     replace b6:=b6.grown hg (by have:=HPF.out; omega)
     replace b7:=b7.grown hg (by have:=HPF.out; omega)
     replace hoq:=own_down9 hoq (show Y5.heap.size ≤ V7.heap.size from hkz)
     replace hkz:=hKX.z
     clear  hsn hg
     go_wp2_with fail
     refine hK.out _ _ (HZ4.out _ hKX) (fun hHeld => ?_)
     clear hK K
     (try simp only [Act.put,Q3,Q4,Q5])
     generalize V5 = U at *)
    rotate_left 1)
   rotate_left 2
   focus (
    go_simp
    have b7 : Blk (V6.alloc (.cells #[.string ⟨#[]⟩,.slice none 0 0] 34)) V6.heap.size 34 #[.string ⟨#[]⟩,.slice none 0 0]:=Blk.new _ _ _
    have hba : Below V6.heap.size V6 (V6.alloc (.cells #[.string ⟨#[]⟩,.slice none 0 0] 34)):=(Below.refl _ _).alloc (Nat.le_refl _) _
    have l7:=hkz
    have hpq:=b6.lt
    replace b6:=b6.below hba
    replace hs1:=hs1.keep hba
    replace hs2:=hs2.keep hba
    replace hKX:=hKX.below hba
    replace hkz:=hKX.z
    clear hba
    generalize V6.alloc (.cells #[.string ⟨#[]⟩,.slice none 0 0] 34) = V7 at *
    generalize V6.heap.size = qb at *
    refine hK.out _ _ (HZ4.out _ hKX) (fun hHeld => ?_)
    clear hK K
    (try simp only [Act.put,Q3,Q4,Q5])
    refine wpAnyH_ready (rs:=[2]) (by kernel_rfl) (by simp) ?_
    refine AllReadyH.cons rfl (fun K hK => ?_) AllReadyH.nil
    go_simp
    go_at_call 6
    refine (HP1.out V7 hKX hs1).mono ?_
    rintro e V2 ⟨room,PA,pc,th,kq,rfl,hop,htl,hpe,hkq,hsn,hg⟩
    have HPE:=Lib.hid hpe
    replace hs2:=hs2.other hg (by omega) (by omega)
    replace hKX:=hKX.call1 hg (Nat.le_refl _)
    replace b6:=b6.grown hg (by have:=HPF.out; omega)
    replace b7:=b7.grown hg (by have:=HPF.out; omega)
    replace hop:=own_down9 hop (show Y5.heap.size ≤ V7.heap.size from hkz)
    replace hkz:=hKX.z
    clear hpe hsn hg
    go_wp2_with fail
    refine hK.out _ _ (HZ4.out _ hKX) (fun hHeld => ?_)
    clear hK K
    (try simp only [Act.put,Q3,Q4,Q5])
    refine wpAnyH_ready (rs:=[5]) (by kernel_rfl) (by simp) ?_
    refine AllReadyH.cons rfl (fun K hK => ?_) AllReadyH.nil
    go_simp
    go_at_call 6
    refine (HP2.out V2 hKX hs2).mono ?_
    rintro e V5 ⟨room2,QA,qc,th2,kq2,rfl,hoq,_,hpe2,_,hsn,hg⟩
    obtain ⟨⟨rfl,rfl⟩,rfl⟩ : (room = room2 ∧ th = th2) ∧ kq = kq2:=by
     have:=HPE.out.symm.trans hpe2
     simpa using this
    clear hpe2
    replace hKX:=hKX.call2 hg (Nat.le_succ _)
    replace hop:=own_grown hop hg (by have:=HPF.out; omega)
    replace b6:=b6.grown hg (by have:=HPF.out; omega)
    replace b7:=b7.grown hg (by have:=HPF.out; omega)
    replace hoq:=own_down9 hoq (show Y5.heap.size ≤ V2.heap.size from hkz)
    replace hkz:=hKX.z
    clear  hsn hg
    go_wp2_with fail
    refine hK.out _ _ (HZ4.out _ hKX) (fun hHeld => ?_)
    clear hK K
    (try simp only [Act.put,Q3,Q4,Q5])
    generalize V5 = U at *)
   rotate_left 1)
  rotate_left 3
  focus (
   go_simp
   have b7 : Blk (V.alloc (.cells #[.string ⟨#[]⟩,.slice none 0 0] 34)) V.heap.size 34 #[.string ⟨#[]⟩,.slice none 0 0]:=Blk.new _ _ _
   have hba : Below V.heap.size V (V.alloc (.cells #[.string ⟨#[]⟩,.slice none 0 0] 34)):=(Below.refl _ _).alloc (Nat.le_refl _) _
   have l7:=hkz
   replace hs1:=hs1.keep hba
   replace hs2:=hs2.keep hba
   replace hKX:=hKX.below hba
   replace hkz:=hKX.z
   clear hba
   generalize V.alloc (.cells #[.string ⟨#[]⟩,.slice none 0 0] 34) = V7 at *
   generalize V.heap.size = qb at *
   refine hK.out _ _ (HZ4.out _ hKX) (fun hHeld => ?_)
   clear hK K
   (try simp only [Act.put,Q3,Q4,Q5])
   refine wpAnyH_ready (rs:=[2,6]) (by kernel_rfl) (by simp) ?_
   refine AllReadyH.cons rfl (fun K hK => ?_) (AllReadyH.cons rfl (fun K hK => ?_) AllReadyH.nil)
   focus (
    go_simp
    go_at_call 6
    refine (HP1.out V7 hKX hs1).mono ?_
    rintro e V2 ⟨room,PA,pc,th,kq,rfl,hop,htl,hpe,hkq,hsn,hg⟩
    have HPE:=Lib.hid hpe
    replace hs2:=hs2.other hg (by omega) (by omega)
    replace hKX:=hKX.call1 hg (Nat.le_refl _)
    replace b7:=b7.grown hg (by have:=HPF.out; omega)
    replace hop:=own_down9 hop (show Y5.heap.size ≤ V7.heap.size from hkz)
    replace hkz:=hKX.z
    clear hpe hsn hg
    go_wp2_with fail
    refine hK.out _ _ (HZ4.out _ hKX) (fun hHeld => ?_)
    clear hK K
    (try simp only [Act.put,Q3,Q4,Q5])
    refine wpAnyH_ready (rs:=[5,6]) (by kernel_rfl) (by simp) ?_
    refine AllReadyH.cons rfl (fun K hK => ?_) (AllReadyH.cons rfl (fun K hK => ?_) AllReadyH.nil)
    focus (
     go_simp
     go_at_call 6
     refine (HP2.out V2 hKX hs2).mono ?_
     rintro e V5 ⟨room2,QA,qc,th2,kq2,rfl,hoq,_,hpe2,_,hsn,hg⟩
     obtain ⟨⟨rfl,rfl⟩,rfl⟩ : (room = room2 ∧ th = th2) ∧ kq = kq2:=by
      have:=HPE.out.symm.trans hpe2
      simpa using this
     clear hpe2
     replace hKX:=hKX.call2 hg (Nat.le_succ _)
     replace hop:=own_grown hop hg (by have:=HPF.out; omega)
     replace b7:=b7.grown hg (by have:=HPF.out; omega)
     replace hoq:=own_down9 hoq (show Y5.heap.size ≤ V2.heap.size from hkz)
     replace hkz:=hKX.z
     clear  hsn hg
     go_wp2_with fail
     refine hK.out _ _ (HZ4.out _ hKX) (fun hHeld => ?_)
     clear hK K
     (try simp only [Act.put,Q3,Q4,Q5])
     refine wpAnyH_ready (rs:=[6]) (by kernel_rfl) (by simp) ?_
     refine AllReadyH.cons rfl (fun K hK => ?_) AllReadyH.nil
     go_simp
     have b6 : Blk (V5.alloc (.cells #[.string ⟨#[]⟩,.slice none 0 0] 34)) V5.heap.size 34 #[.string ⟨#[]⟩,.slice none 0 0]:=Blk.new _ _ _
     have hba : Below V5.heap.size V5 (V5.alloc (.cells #[.string ⟨#[]⟩,.slice none 0 0] 34)):=(Below.refl _ _).alloc (Nat.le_refl _) _
     have l6:=hkz
     have hpq:=b7.lt
     replace b7:=b7.below hba
     replace hop:=own_keep hop hba
     replace hoq:=own_keep hoq hba
     replace hKX:=hKX.below hba
     replace hkz:=hKX.z
     clear hba
     generalize V5.alloc (.cells #[.string ⟨#[]⟩,.slice none 0 0] 34) = V6 at *
     generalize V5.heap.size = pb at *
     refine hK.out _ _ (HZ4.out _ hKX) (fun hHeld => ?_)
     clear hK K
     (try simp only [Act.put,Q3,Q4,Q5])
     generalize V6 = U at *)
    rotate_left 1
    focus (
     go_simp
     have b6 : Blk (V2.alloc (.cells #[.string ⟨#[]⟩,.slice none 0 0] 34)) V2.heap.size 34 #[.string ⟨#[]⟩,.slice none 0 0]:=Blk.new _ _ _
     have hba : Below V2.heap.size V2 (V2.alloc (.cells #[.string ⟨#[]⟩,.slice none 0 0] 34)):=(Below.refl _ _).alloc (Nat.le_refl _) _
     have l6:=hkz
     have hpq:=b7.lt
     replace b7:=b7.below hba
     replace hop:=own_keep hop hba
     replace hs2:=hs2.keep hba
     replace hKX:=hKX.below hba
     replace hkz:=hKX.z
     clear hba
     generalize V2.alloc (.cells #[.string ⟨#[]⟩,.slice none 0 0] 34) = V6 at *
     generalize V2.heap.size = pb at *
     refine hK.out _ _ (HZ4.out _ hKX) (fun hHeld => ?_)
     clear hK K
     (try simp only [Act.put,Q3,Q4,Q5])
     refine wpAnyH_ready (rs:=[5]) (by kernel_rfl) (by simp) ?_
     refine AllReadyH.cons rfl (fun K hK => ?_) AllReadyH.nil
     go_simp
     go_at_call 6
     refine (HP2.out V6 hKX hs2).mono ?_
     rintro e V5 ⟨room2,QA,qc,th2,kq2,rfl,hoq,_,hpe2,_,hsn,hg⟩
     obtain ⟨⟨rfl,rfl⟩,rfl⟩ : (room = room2 ∧ th = th2) ∧ kq = kq2:=by
      have:=HPE.out.symm.trans hpe2
      simpa using this
     clear hpe2
     replace hKX:=hKX.call2 hg (Nat.le_succ _)
     replace hop:=own_grown hop hg (by have:=HPF.out; omega)
     replace b6:=b6.grown hg (by have:=HPF.out; omega)
     replace b7:=b7.grown hg (by have:=HPF.out; omega)
     replace hoq:=own_down9 hoq (show Y5.heap.size ≤ V6.heap.size from hkz)
     replace hkz:=hKX.z
     clear  hsn hg
     go_wp2_with fail
     refine hK.out _ _ (HZ4.out _ hKX) (fun hHeld => ?_)
     clear hK K
     (try simp only [Act.put,Q3,Q4,Q5])
     generalize V5 = U at *)
    rotate_left 1)
   rotate_left 2
   focus (
    go_simp
    have b6 : Blk (V7.alloc (.cells #[.string ⟨#[]⟩,.slice none 0 0] 34)) V7.heap.size 34 #[.string ⟨#[]⟩,.slice none 0 0]:=Blk.new _ _ _
    have hba : Below V7.heap.size V7 (V7.alloc (.cells #[.string ⟨#[]⟩,.slice none 0 0] 34)):=(Below.refl _ _).alloc (Nat.le_refl _) _
    have l6:=hkz
    have hpq:=b7.lt
    replace b7:=b7.below hba
    replace hs1:=hs1.keep hba
    replace hs2:=hs2.keep hba
    replace hKX:=hKX.below hba
    replace hkz:=hKX.z
    clear hba
    generalize V7.alloc (.cells #[.string ⟨#[]⟩,.slice none 0 0] 34) = V6 at *
    generalize V7.heap.size = pb at *
    refine hK.out _ _ (HZ4.out _ hKX) (fun hHeld => ?_)
    clear hK K
    (try simp only [Act.put,Q3,Q4,Q5])
    refine wpAnyH_ready (rs:=[2]) (by kernel_rfl) (by simp) ?_
    refine AllReadyH.cons rfl (fun K hK => ?_) AllReadyH.nil
    go_simp
    go_at_call 6
    refine (HP1.out V6 hKX hs1).mono ?_
    rintro e V2 ⟨room,PA,pc,th,kq,rfl,hop,htl,hpe,hkq,hsn,hg⟩
    have HPE:=Lib.hid hpe
    replace hs2:=hs2.other hg (by omega) (by omega)
    replace hKX:=hKX.call1 hg (Nat.le_refl _)
    replace b6:=b6.grown hg (by have:=HPF.out; omega)
    replace b7:=b7.grown hg (by have:=HPF.out; omega)
    replace hop:=own_down9 hop (show Y5.heap.size ≤ V6.heap.size from hkz)
    replace hkz:=hKX.z
    clear hpe hsn hg
    go_wp2_with fail
    refine hK.out _ _ (HZ4.out _ hKX) (fun hHeld => ?_)
    clear hK K
    (try simp only [Act.put,Q3,Q4,Q5])
    refine wpAnyH_ready (rs:=[5]) (by kernel_rfl) (by simp) ?_
    refine AllReadyH.cons rfl (fun K hK => ?_) AllReadyH.nil
    go_simp
    go_at_call 6
    refine (HP2.out V2 hKX hs2).mono ?_
    rintro e V5 ⟨room2,QA,qc,th2,kq2,rfl,hoq,_,hpe2,_,hsn,hg⟩
    obtain ⟨⟨rfl,rfl⟩,rfl⟩ : (room = room2 ∧ th = th2) ∧ kq = kq2:=by
     have:=HPE.out.symm.trans hpe2
     simpa using this
    clear hpe2
    replace hKX:=hKX.call2 hg (Nat.le_succ _)
    replace hop:=own_grown hop hg (by have:=HPF.out; omega)
    replace b6:=b6.grown hg (by have:=HPF.out; omega)
    replace b7:=b7.grown hg (by have:=HPF.out; omega)
    replace hoq:=own_down9 hoq (show Y5.heap.size ≤ V2.heap.size from hkz)
    replace hkz:=hKX.z
    clear  hsn hg
    go_wp2_with fail
    refine hK.out _ _ (HZ4.out _ hKX) (fun hHeld => ?_)
    clear hK K
    (try simp only [Act.put,Q3,Q4,Q5])
    generalize V5 = U at *)
   rotate_left 1)
  rotate_left 3
  all_goals (
   refine wpAnyH_ready (rs:=[8]) (by kernel_rfl) (by simp) ?_
   refine AllReadyH.cons rfl (fun K hK => ?_) AllReadyH.nil
   have f0:=b6.thaw 0
   have f1:=b6.thaw 1
   obtain ⟨c0,c1⟩:=b6.w2
   have zq:=b6.lt
   go_simp
   clear f0 f1 c0 c1 zq
   replace hop:=own_pastP hop b6 (by decide) (.string ⟨room.toArray⟩) (.slice PA th.length pc)
   replace hoq:=own_pastP hoq b6 (by decide) (.string ⟨room.toArray⟩) (.slice PA th.length pc)
   replace b7:=b7.pastP (k:=pb) (by omega) (.string ⟨room.toArray⟩) (.slice PA th.length pc)
   replace b6:=b6.pokeP (.string ⟨room.toArray⟩) (.slice PA th.length pc)
   replace hKX:=hKX.set2 (show Y5.heap.size ≤ pb by omega) (by have:=HPF.out; omega) (.string ⟨room.toArray⟩) (.slice PA th.length pc)
   replace hkz:=hKX.z
   generalize (U.setCell ⟨pb,0,none⟩ (.string ⟨room.toArray⟩)).setCell ⟨pb,1,none⟩ (.slice PA th.length pc) = V8 at *
   refine hK.out _ _ (HZ4.out _ hKX) (fun hHeld => ?_)
   clear hK K
   (try simp only [Act.put,Q3,Q4,Q5])
   refine wpAnyH_ready (rs:=[9]) (by kernel_rfl) (by simp) ?_
   refine AllReadyH.cons rfl (fun K hK => ?_) AllReadyH.nil
   have f0:=b7.thaw 0
   have f1:=b7.thaw 1
   obtain ⟨c0,c1⟩:=b7.w2
   have zq:=b7.lt
   go_simp
   clear f0 f1 c0 c1 zq
   replace hop:=own_pastP hop b7 (by decide) (.string ⟨room.toArray⟩) (.slice QA th.length qc)
   replace hoq:=own_pastP hoq b7 (by decide) (.string ⟨room.toArray⟩) (.slice QA th.length qc)
   replace b6:=b6.pastP (k:=qb) (by omega) (.string ⟨room.toArray⟩) (.slice QA th.length qc)
   replace b7:=b7.pokeP (.string ⟨room.toArray⟩) (.slice QA th.length qc)
   replace hKX:=hKX.set2 (show Y5.heap.size ≤ qb by omega) (by have:=HPF.out; omega) (.string ⟨room.toArray⟩) (.slice QA th.length qc)
   replace hkz:=hKX.z
   generalize (V8.setCell ⟨qb,0,none⟩ (.string ⟨room.toArray⟩)).setCell ⟨qb,1,none⟩ (.slice QA th.length qc) = V9 at *
   refine hK.out _ _ (HZ4.out _ hKX) (fun hHeld => ?_)
   clear hK K
   (try simp only [Act.put,Q3,Q4,Q5])
   refine wpAnyH_done (by kernel_rfl) ?_ _
   go_wp2_with fail
   go_meet
   exact ⟨room,th,PA,QA,pc,qc,pb,qb,rfl,rfl,b6,b7,(Row.of_own hop).weak HPF.out.2.2.2.2.1,(Row.of_own hoq).weak HPF.out.2.2.2.2.1,Lib.hid (poEnd_short HTI.out HPF.out.2.2.1 HPE.out),(HZ2.out _ hKX.k).1,(HZ2.out _ hKX.k).2,hKX.x⟩)
 case rest =>
  obtain ⟨room,th,PA,QA,pc,qc,pb,qb,rfl,rfl,hpb,hqb,hpr,hqr,HTH,hst,⟨hxr,hyr⟩,hx⟩:=hcut
  generalize wc = Z at *
  have HSG : Hid (∀ r ∈ rs,r.gives.length ≤ 1000):=Lib.hid (fun r hr => (hst.1.s.rg r hr).1)
  have HS : Hid (∀ W,Below Z.heap.size Z W → (MapW W lo A rs D ds ∧ MapW W lo A' rs' D' ds' ∧ Blk W mb 29 #[.slice A rs.length ca,.slice D ds.length cd,.string ⟨st.toArray⟩,.string ⟨gl.toArray⟩] ∧ Blk W ob 29 #[.slice A' rs'.length ca',.slice D' ds'.length cd',.string ⟨st.toArray⟩,.string ⟨gl.toArray⟩]) ∧ (Row W lo 1 X tr.length (strs tr) ∧ Row W lo 1 Y tr.length (strs tr)) ∧ (Blk W pb 34 #[.string ⟨room.toArray⟩,.slice PA th.length pc] ∧ Blk W qb 34 #[.string ⟨room.toArray⟩,.slice QA th.length qc]) ∧ (Row W lo 1 PA th.length (strs th) ∧ Row W lo 1 QA th.length (strs th)) ∧ Below w.heap.size w W):=Lib.hid (fun W hb => ⟨⟨hst.1.below hb,hst.2.1.below hb,hst.2.2.1.below hb,hst.2.2.2.below hb⟩,⟨hxr.below hb,hyr.below hb⟩,⟨hpb.below hb,hqb.below hb⟩,⟨hpr.below hb,hqr.below hb⟩,below_up hx hb⟩)
  clear hst hxr hyr hpb hqb hpr hqr hx HTI
  have hbl : Below Z.heap.size Z Z:=Below.refl _ _
  obtain ⟨te,hte⟩ : ∃ te,te = tricksE rs ds st gl tr:=⟨_,rfl⟩
  have HTE:=Lib.hid hte
  clear hte
  have hTF:=rTricksFault_any lo ca' cd' A' rs' D' ds' st gl lo cy Y tr Z (HS.out _ hbl).1.2.1 (HS.out _ hbl).2.1.2 (by omega)
  rw [← tricksE_same st gl tr HRS.out HDS.out,← HTE.out] at hTF
  unfold mapV at hTF
  simp only [encStr] at hTF
  obtain ⟨a0,a1,a2,a3,e0,e1,e2,e3⟩:=Blk.eightC (HS.out _ hbl).1.2.2.1 (HS.out _ hbl).1.2.2.2
  have za:=(HS.out _ hbl).1.2.2.1.lt
  have zb:=(HS.out _ hbl).1.2.2.2.lt
  go_wp2_with fail
  refine hTF.mono ?_
  clear hTF
  rintro e w4 ⟨rfl,hb⟩
  replace hbl:=below_up hbl hb
  clear hb a0 a1 a2 a3 e0 e1 e2 e3 za zb
  by_cases h0 : te = 0
  ·subst h0
   have HNS : Hid (nS rs (onceT (allT rs ds)) ≤ 240):=Lib.hid (nS_few hra HFE.out)
   have HT0:=Lib.hid HTE.out.symm
   have hFA:=Fastest_ok lo ca cd lo cx A rs D ds st gl X tr w4 (HS.out _ hbl).1.1 (HS.out _ hbl).2.1.1 (by omega) HT0.out
   generalize hT : onceT (allT rs ds) = T at *
   have HT:=Lib.hid hT
   clear hT
   unfold mapV at hFA
   simp only [encStr] at hFA
   obtain ⟨a0,a1,a2,a3,e0,e1,e2,e3⟩:=Blk.eightC (HS.out _ hbl).1.2.2.1 (HS.out _ hbl).1.2.2.2
   have za:=(HS.out _ hbl).1.2.2.1.lt
   have zb:=(HS.out _ hbl).1.2.2.2.lt
   go_wp2_with fail
   refine hFA.mono ?_
   clear hFA
   rintro e w5 ⟨K1,t1,b1,P1,p1,rfl,hq1,ho1,hb⟩
   have hk1 : K1.length ≤ 240:=Nat.le_trans hq1.len HNS.out
   have hz1:=((WrT.of_own ho1).weak hbl.size).below ((Below.refl _ _).alloc (Nat.le_refl _) (.cells #[.slice P1 K1.length p1,.int .i64 t1] 40))
   replace hbl:=(below_up hbl hb)
   have hfb : Blk (w5.alloc (.cells #[.slice P1 K1.length p1,.int .i64 t1] 40)) w5.heap.size 40 #[.slice P1 K1.length p1,.int .i64 t1]:=Blk.new _ _ _
   have hfz : Z.heap.size ≤ w5.heap.size:=hbl.size
   replace hbl:=hbl.alloc hbl.size (.cells #[.slice P1 K1.length p1,.int .i64 t1] 40)
   clear hq1 ho1 hb a0 a1 a2 a3 e0 e1 e2 e3 za zb
   go_upto_region 8 with (fail)
   generalize w5.alloc (.cells #[.slice P1 K1.length p1,.int .i64 t1] 40) = w6 at *
   generalize w5.heap.size = fb at *
   have hTT:=ctricksO_any lo ca cd A rs D ds st gl w6 (HS.out _ hbl).1.1
   unfold CtPostO at hTT
   rw [show mapE rs ds st gl = 0 from HM0.out] at hTT
   have hkl : (ctR rs ds st gl).length ≤ 1000000:=by
    unfold ctR
    rw [if_pos HM0.out]
    have h1:=onceT_le (allK ds)
    have h2:=allK_le ds
    have h3:=(HS.out _ hbl).1.1.s.dl
    omega
   generalize ctR rs ds st gl = KT at *
   unfold mapV at hTT
   simp only [encStr] at hTT
   obtain ⟨a0,a1,a2,a3,e0,e1,e2,e3⟩:=Blk.eightC (HS.out _ hbl).1.2.2.1 (HS.out _ hbl).1.2.2.2
   have za:=(HS.out _ hbl).1.2.2.1.lt
   have zb:=(HS.out _ hbl).1.2.2.2.lt
   go_wp2_with fail
   refine hTT.mono ?_
   clear hTT
   rintro e w7 ⟨P2,p2,rfl,ho2,hb⟩
   have hz2:=(WrT.of_own ho2).weak hbl.size
   replace hz1:=hz1.below hb
   replace hfb:=hfb.below hb
   replace hbl:=below_up hbl hb
   clear ho2 hb a0 a1 a2 a3 e0 e1 e2 e3 za zb
   have hLO:=lost_any lo ca cd lo cx A rs D ds st gl X tr w7 (HS.out _ hbl).1.1 (HS.out _ hbl).2.1.1 (by omega)
   rw [HT.out,HT0.out] at hLO
   unfold mapV at hLO
   simp only [encStr] at hLO
   obtain ⟨a0,a1,a2,a3,e0,e1,e2,e3⟩:=Blk.eightC (HS.out _ hbl).1.2.2.1 (HS.out _ hbl).1.2.2.2
   have za:=(HS.out _ hbl).1.2.2.1.lt
   have zb:=(HS.out _ hbl).1.2.2.2.lt
   go_wp2_with fail
   refine hLO.mono ?_
   clear hLO
   rintro e w8 ⟨zs,ZA,zc,-,hok,rfl,hop,hzl,hb⟩
   have hzp:=hop.wr.weak hbl.size
   replace hz1:=hz1.below hb
   replace hz2:=hz2.below hb
   replace hfb:=hfb.below hb
   replace hbl:=below_up hbl hb
   have HZT : Hid (∀ x ∈ zs,x.th.length ≤ 1000):=Lib.hid (fun x hx => by
    have hTU : T.Pairwise (· < ·):=by rw [← HT.out]; exact (onceT_spec _).1
    have:=ThOk.len hTU ((hok rfl).mem hTU hx).2.1
    have:=HFE.out
    omega)
   clear hok hop hb a0 a1 a2 a3 e0 e1 e2 e3 za zb
   have hWA:=walkO_any lo ca cd lo cx 0 0 A rs D ds st gl X tr none [] w8 (HS.out _ hbl).1.1 (HS.out _ hbl).2.1.1 (by omega) (Row.none_ _ _ _ _) (by simp)
   rw [show walkE rs ds st gl tr [] = ⟨0,st,onceT (givesOf rs st),0⟩ by unfold walkE walkF; rw [if_neg (by simp [HT0.out]),if_neg (by simp)]; rfl] at hWA
   have hwl : (onceT (givesOf rs st)).length ≤ 1000000:=by have:=givesOf_len (key:=st) HSG.out; omega
   unfold WaPostO mapV at hWA
   simp only [encStr,List.length_nil] at hWA
   generalize onceT (givesOf rs st) = wt at *
   obtain ⟨a0,a1,a2,a3,e0,e1,e2,e3⟩:=Blk.eightC (HS.out _ hbl).1.2.2.1 (HS.out _ hbl).1.2.2.2
   have za:=(HS.out _ hbl).1.2.2.1.lt
   have zb:=(HS.out _ hbl).1.2.2.2.lt
   go_wp2_with fail
   refine hWA.mono ?_
   clear hWA
   rintro e w9 ⟨P3,p3,rfl,ho3,hb⟩
   have hz3:=((WrT.of_own ho3).weak hbl.size).below ((Below.refl _ _).alloc (Nat.le_refl _) (.cells #[.string ⟨st.toArray⟩,.slice P3 wt.length p3] 34))
   have hb2:=hb.alloc hb.size (.cells #[.string ⟨st.toArray⟩,.slice P3 wt.length p3] 34)
   replace hz1:=hz1.below hb2
   replace hz2:=hz2.below hb2
   replace hzp:=hzp.below hb2
   replace hfb:=hfb.below hb2
   have hab : Blk (w9.alloc (.cells #[.string ⟨st.toArray⟩,.slice P3 wt.length p3] 34)) w9.heap.size 34 #[.string ⟨st.toArray⟩,.slice P3 wt.length p3]:=Blk.new _ _ _
   replace hbl:=below_up hbl hb2
   clear ho3 hb hb2 a0 a1 a2 a3 e0 e1 e2 e3 za zb
   go_upto_region 13 with (fail)
   generalize w9.alloc (.cells #[.string ⟨st.toArray⟩,.slice P3 wt.length p3] 34) = w10 at *
   generalize w9.heap.size = ab at *
   obtain ⟨f0,f1⟩:=hfb.w2
   obtain ⟨g0,g1⟩:=hab.w2
   have zf:=hfb.lt
   have zg:=hab.lt
   have hn1 : K1.length ≤ 1000000:=by omega
   generalize K1.length = n1 at *
   generalize KT.length = n2 at *
   generalize wt.length = n3 at *
   go_wp2_with fail
   have hk:=Blk.new w10 31 #[.slice P1 n1 p1,.slice P2 n2 p2,.slice P3 n3 p3]
   have hba:=(Below.refl w10.heap.size w10).alloc (Nat.le_refl _) (.cells #[.slice P1 n1 p1,.slice P2 n2 p2,.slice P3 n3 p3] 31)
   replace hz1:=hz1.below hba
   replace hz2:=hz2.below hba
   replace hz3:=hz3.below hba
   replace hzp:=hzp.below hba
   replace hbl:=below_up hbl hba
   generalize w10.alloc (.cells #[.slice P1 n1 p1,.slice P2 n2 p2,.slice P3 n3 p3] 31) = w11 at *
   generalize w10.heap.size = bk at *
   clear hba f0 f1 g0 g1 zf zg hfb hab hk1
   go_loopw [102] (fun i wr => ∃ k : Nat,k ≤ 3 ∧ i = .int .i64 k ∧ (WrT wr Z.heap.size 9 1 P1 n1 ∧ WrT wr Z.heap.size 9 1 P2 n2 ∧ WrT wr Z.heap.size 9 1 P3 n3) ∧ WrPts wr Z.heap.size ZA zc zs ∧ Blk wr bk 31 #[.slice P1 n1 p1,.slice P2 n2 p2,.slice P3 n3 p3] ∧ Below Z.heap.size Z wr) (fun i _ => 3 - (intOf i).toNat)
   case atStart => exact ⟨0,by omega,rfl,⟨hz1,hz2,hz3⟩,hzp,hk,hbl⟩
   case round =>
    clear hz1 hz2 hz3 hzp hk hbl
    obtain ⟨k,hk3,rfl,hws,hzp,hk,hy⟩:=hrel
    by_cases hlt : k < 3
    ·obtain ⟨GA,gn,gc,hgc,hgn,hgs⟩ : ∃ (GA : Option Addr) (gn gc : Nat),wr.cell? ⟨bk,k,none⟩ = some (.slice GA gn gc) ∧ gn ≤ 1000000 ∧ Hid (∀ W : World,(WrT W Z.heap.size 9 1 P1 n1 ∧ WrT W Z.heap.size 9 1 P2 n2 ∧ WrT W Z.heap.size 9 1 P3 n3) → WrT W Z.heap.size 9 1 GA gn):=by
      have h3 : k = 0 ∨ k = 1 ∨ k = 2:=by omega
      rcases h3 with rfl | rfl | rfl
      ·exact ⟨P1,n1,p1,hk.cell 0,hn1,Lib.hid fun W h => h.1⟩
      ·exact ⟨P2,n2,p2,hk.cell 1,hkl,Lib.hid fun W h => h.2.1⟩
      ·exact ⟨P3,n3,p3,hk.cell 2,hwl,Lib.hid fun W h => h.2.2⟩
     have hkz:=hk.lt
     go_wp2_with fail
     clear hkz hgc
     go_loopw [108] (fun j wv => ∃ i : Nat,i ≤ gn ∧ j = .int .i64 i ∧ (WrT wv Z.heap.size 9 1 P1 n1 ∧ WrT wv Z.heap.size 9 1 P2 n2 ∧ WrT wv Z.heap.size 9 1 P3 n3) ∧ WrPts wv Z.heap.size ZA zc zs ∧ Blk wv bk 31 #[.slice P1 n1 p1,.slice P2 n2 p2,.slice P3 n3 p3] ∧ Below Z.heap.size Z wv) (fun j _ => gn - (intOf j).toNat)
     case atStart => exact ⟨0,Nat.zero_le _,rfl,hws,hzp,hk,hy⟩
     case round =>
      clear hws hzp hk hy
      obtain ⟨i,hi,rfl,hws,hzp,hk,hy⟩:=hrel
      by_cases hil : i < gn
      ·obtain ⟨gs,cs,u,rfl,hgb,hB,cu⟩:=(hgs.out _ hws).blk (by omega) hil
       rw [Nat.mul_one] at cu
       have fu:=hB.thaw i
       have hgl:=hB.lt
       have hne : bk ≠ gs:=Blk.ne hk hB (by decide)
       have hw2:=And.intro (hws.1.poke gs i (.string ⟨#[115,112,111,105,108,116]⟩)) (And.intro (hws.2.1.poke gs i (.string ⟨#[115,112,111,105,108,116]⟩)) (hws.2.2.poke gs i (.string ⟨#[115,112,111,105,108,116]⟩)))
       have hp2:=hzp.poke hB i (.string ⟨#[115,112,111,105,108,116]⟩)
       have hk2:=hk.past gs i (.string ⟨#[115,112,111,105,108,116]⟩) hne
       have hy2:=Below.setCell hy (p:=⟨gs,i,none⟩) hgb (.string ⟨#[115,112,111,105,108,116]⟩)
       clear hws hzp hk hy hne hB
       go_wp2_with fail
       go_roundw
       case rel => exact ⟨i + 1,by omega,by go_num,hw2,hp2,hk2,hy2⟩
       case measure => simp [intOf]; omega
      ·have hin : i = gn:=by omega
       subst hin
       go_wp2_with fail
       go_roundw
       case rel => exact ⟨k + 1,by omega,by go_num,hws,hzp,hk,hy⟩
       case measure => simp [intOf]; omega
    ·have hk3 : k = 3:=by omega
     subst hk3
     clear hws hk hlt
     go_wp2_with fail
     go_loopw [118] (fun i wv => ∃ k : Nat,k ≤ zs.length ∧ i = .int .i64 k ∧ WrPts wv Z.heap.size ZA zc zs ∧ Below Z.heap.size Z wv) (fun i _ => zs.length - (intOf i).toNat)
     case atStart => exact ⟨0,Nat.zero_le _,rfl,hzp,hy⟩
     case round =>
      clear hzp hy
      obtain ⟨k,hkl2,rfl,hzp,hy⟩:=hrel
      by_cases hlt : k < zs.length
      ·obtain ⟨zb,zoff,rfl,zz,c0,c1⟩:=hzp.cell hlt
       have hzn : zs[k].th.length ≤ 1000:=HZT.out _ (List.getElem_mem hlt)
       have HME : Hid (zs[k] ∈ zs):=Lib.hid (List.getElem_mem hlt)
       have HZC : Hid (∀ W,WrPts W Z.heap.size (some ⟨zb,zoff,none⟩) zc zs → zb < W.heap.size ∧ W.cell? ⟨zb,zoff + k * 2 + 1,none⟩ = some (.slice zs[k].B zs[k].th.length zs[k].c)):=Lib.hid (fun W hW => by
        obtain ⟨b,off,e,h1,_,h2⟩:=hW.cell hlt
        injection e with e
        injection e with e1 e2
        subst e1 e2
        exact ⟨h1,h2⟩)
       generalize zs[k] = z at *
       obtain ⟨zroom,zth,zB,zcc⟩:=z
       dsimp only at c0 c1 hzn HZC
       go_wp2_with fail
       clear c0 c1 zz
       go_loopw [127] (fun j wu => ∃ i : Nat,i ≤ zth.length ∧ j = .int .i64 i ∧ WrPts wu Z.heap.size (some ⟨zb,zoff,none⟩) zc zs ∧ Below Z.heap.size Z wu) (fun j _ => zth.length - (intOf j).toNat)
       case atStart => exact ⟨0,Nat.zero_le _,rfl,hzp,hy⟩
       case round =>
        clear hzp hy
        obtain ⟨i,hi,rfl,hzp,hy⟩:=hrel
        by_cases hil : i < zth.length
        ·obtain ⟨zz,c1⟩:=HZC.out _ hzp
         obtain ⟨gs,cs,u,hge,hgb,hB,cu⟩:=(hzp.ths _ HME.out).blk (by omega) hil
         dsimp only at hge
         subst hge
         rw [Nat.mul_one] at cu
         have fu:=hB.thaw i
         have hgl:=hB.lt
         have hp2:=hzp.poke hB i (.string ⟨#[115,112,111,105,108,116]⟩)
         have hy2:=Below.setCell hy (p:=⟨gs,i,none⟩) hgb (.string ⟨#[115,112,111,105,108,116]⟩)
         clear hzp hy hB
         go_wp2_with fail
         go_roundw
         case rel => exact ⟨i + 1,by omega,by go_num,hp2,hy2⟩
         case measure => simp [intOf]; omega
        ·have hin : i = zth.length:=by omega
         subst hin
         go_wp2_with fail
         go_roundw
         case rel => exact ⟨k + 1,by omega,by go_num,hzp,hy⟩
         case measure => simp [intOf]; omega
      ·have hke : k = zs.length:=by omega
       subst hke
       clear hzp
       have hbl:=hy
       clear hy hlt
       have hfr:=from_any lo ca cd lo cx lo pc A rs D ds st gl X tr room PA th wr (HS.out _ hbl).1.1 (HS.out _ hbl).2.1.1 (by omega) (HS.out _ hbl).2.2.2.1.1 (by have:=HTH.out.1; omega)
       rw [HT.out] at hfr
       obtain ⟨fe,hfe⟩ : ∃ fe,fe = fromE rs ds st gl tr room th:=⟨_,rfl⟩
       rw [← hfe] at hfr
       have HFR:=Lib.hid hfe
       clear hfe
       unfold FrPost mapV at hfr
       simp only [encStr] at hfr
       obtain ⟨a0,a1,a2,a3,e0,e1,e2,e3⟩:=Blk.eightC (HS.out _ hbl).1.2.2.1 (HS.out _ hbl).1.2.2.2
       have za:=(HS.out _ hbl).1.2.2.1.lt
       have zb:=(HS.out _ hbl).1.2.2.2.lt
       obtain ⟨x0,x1⟩:=(HS.out _ hbl).2.2.1.1.w2
       obtain ⟨y0,y1⟩:=(HS.out _ hbl).2.2.1.2.w2
       have zx:=(HS.out _ hbl).2.2.1.1.lt
       have zy:=(HS.out _ hbl).2.2.1.2.lt
       go_wp2_with fail
       refine hfr.mono ?_
       clear hfr
       rintro e v1 ⟨r,RA,rc,-,-,rfl,-,hb⟩
       replace hbl:=below_up hbl hb
       replace hbl:=hbl.alloc hbl.size (.cells #[.slice RA r.ks.length rc,.int .i64 r.t] 40)
       clear hb a0 a1 a2 a3 e0 e1 e2 e3 za zb x0 x1 y0 y1 zx zy
       go_upto_region 32 with (fail)
       generalize v1.alloc (.cells #[.slice RA r.ks.length rc,.int .i64 r.t] 40) = v2 at *
       by_cases hf0 : fe = 0
       ·have d0 : (fe != 0) = false:=by rw [hf0]; rfl
        clear hf0
        have hsm:=sameMap_yes A A' D D' ca ca' cd cd' lo lo rs rs' ds ds' st gl v2 (HS.out _ hbl).1.1 (HS.out _ hbl).1.2.1 (er_same HRS.out) (erD_same HDS.out)
        obtain ⟨a0,a1,a2,a3,e0,e1,e2,e3⟩:=Blk.eightC (HS.out _ hbl).1.2.2.1 (HS.out _ hbl).1.2.2.2
        have za:=(HS.out _ hbl).1.2.2.1.lt
        have zb:=(HS.out _ hbl).1.2.2.2.lt
        go_wp2_with fail
        refine hsm.mono ?_
        clear hsm
        rintro e v5 ⟨rfl,hb⟩
        replace hbl:=below_up hbl hb
        clear hb a0 a1 a2 a3 e0 e1 e2 e3 za zb
        go_wp2_with fail
        refine (equalS_any X Y cx cy lo lo tr tr _ (HS.out _ hbl).2.1.1 (HS.out _ hbl).2.1.2 (by omega) (by omega)).mono ?_
        rintro e v6 ⟨rfl,q,rfl⟩
        rw [decide_eq_true (rfl : tr = tr)]
        replace hbl:=below_drewN' hbl q
        generalize World.drewN _ q = v6 at *
        have hsp:=samePoint_any PA QA pc qc lo lo room room th th v6 (HS.out _ hbl).2.2.2.1.1 (HS.out _ hbl).2.2.2.1.2 (by have:=HTH.out.1; omega) (by have:=HTH.out.1; omega)
        rw [decide_eq_true (⟨rfl,rfl⟩ : room = room ∧ th = th)] at hsp
        obtain ⟨x0,x1⟩:=(HS.out _ hbl).2.2.1.1.w2
        obtain ⟨y0,y1⟩:=(HS.out _ hbl).2.2.1.2.w2
        have zx:=(HS.out _ hbl).2.2.1.1.lt
        have zy:=(HS.out _ hbl).2.2.1.2.lt
        go_wp2_with fail
        refine hsp.mono ?_
        clear hsp
        rintro e v7 ⟨rfl,hb⟩
        replace hbl:=below_up hbl hb
        clear hb x0 x1 y0 y1 zx zy
        go_wp2_with fail
        refine (ready_any _).mono ?_
        rintro e v8 ⟨rfl,hb⟩
        go_wp2_with fail
        go_ret
        exact ⟨rfl,(HS.out _ (below_up hbl hb)).2.2.2.2⟩
       ·have d0 : (fe != 0) = true:=bne_iff_ne.2 hf0
        have HF0:=Lib.hid hf0
        clear hf0
        have hth:=rThingsFault_any lo ca' cd' lo qc A' rs' D' ds' st gl QA th v2 (HS.out _ hbl).1.2.1 (HS.out _ hbl).2.2.2.1.2 HTH.out (by rw [← allT_same HRS.out HDS.out,HT.out]; have:=HFE.out; omega)
        rw [← allT_same HRS.out HDS.out,HT.out] at hth
        obtain ⟨we,hwe⟩ : ∃ we,we = wantE T th:=⟨_,rfl⟩
        rw [← hwe] at hth
        have HWE:=Lib.hid hwe
        clear hwe
        unfold mapV at hth
        simp only [encStr] at hth
        obtain ⟨a0,a1,a2,a3,e0,e1,e2,e3⟩:=Blk.eightC (HS.out _ hbl).1.2.2.1 (HS.out _ hbl).1.2.2.2
        have za:=(HS.out _ hbl).1.2.2.1.lt
        have zb:=(HS.out _ hbl).1.2.2.2.lt
        obtain ⟨x0,x1⟩:=(HS.out _ hbl).2.2.1.1.w2
        obtain ⟨y0,y1⟩:=(HS.out _ hbl).2.2.1.2.w2
        have zx:=(HS.out _ hbl).2.2.1.1.lt
        have zy:=(HS.out _ hbl).2.2.1.2.lt
        go_wp2_with fail
        refine hth.mono ?_
        clear hth
        rintro e v3 ⟨rfl,hb⟩
        replace hbl:=below_up hbl hb
        clear hb a0 a1 a2 a3 e0 e1 e2 e3 za zb x0 x1 y0 y1 zx zy
        by_cases hw0 : we = 0
        ·have d1 : (we == 0) = true:=by rw [hw0]; rfl
         have hra:=rRoomAt_any lo ca' cd' A' rs' D' ds' st gl room v3 (HS.out _ hbl).1.2.1
         rw [keyI_none (by
          rw [← keys_same HRS.out]
          intro hmem
          refine HF0.out ?_
          rw [HFR.out]
          unfold fromE
          rw [if_neg (by simp [HT0.out]),if_neg (by simpa using hmem),HT.out,← HWE.out,hw0])] at hra
         unfold mapV at hra
         simp only [encStr] at hra
         clear hw0
         obtain ⟨a0,a1,a2,a3,e0,e1,e2,e3⟩:=Blk.eightC (HS.out _ hbl).1.2.2.1 (HS.out _ hbl).1.2.2.2
         have za:=(HS.out _ hbl).1.2.2.1.lt
         have zb:=(HS.out _ hbl).1.2.2.2.lt
         obtain ⟨x0,x1⟩:=(HS.out _ hbl).2.2.1.1.w2
         obtain ⟨y0,y1⟩:=(HS.out _ hbl).2.2.1.2.w2
         have zx:=(HS.out _ hbl).2.2.1.1.lt
         have zy:=(HS.out _ hbl).2.2.1.2.lt
         go_wp2_with fail
         refine hra.mono ?_
         clear hra
         rintro e v4 ⟨rfl,hb⟩
         replace hbl:=below_up hbl hb
         clear hb a0 a1 a2 a3 e0 e1 e2 e3 za zb x0 x1 y0 y1 zx zy
         have hsm:=sameMap_yes A A' D D' ca ca' cd cd' lo lo rs rs' ds ds' st gl v4 (HS.out _ hbl).1.1 (HS.out _ hbl).1.2.1 (er_same HRS.out) (erD_same HDS.out)
         obtain ⟨a0,a1,a2,a3,e0,e1,e2,e3⟩:=Blk.eightC (HS.out _ hbl).1.2.2.1 (HS.out _ hbl).1.2.2.2
         have za:=(HS.out _ hbl).1.2.2.1.lt
         have zb:=(HS.out _ hbl).1.2.2.2.lt
         go_wp2_with fail
         refine hsm.mono ?_
         clear hsm
         rintro e v5 ⟨rfl,hb⟩
         replace hbl:=below_up hbl hb
         clear hb a0 a1 a2 a3 e0 e1 e2 e3 za zb
         go_wp2_with fail
         refine (equalS_any X Y cx cy lo lo tr tr _ (HS.out _ hbl).2.1.1 (HS.out _ hbl).2.1.2 (by omega) (by omega)).mono ?_
         rintro e v6 ⟨rfl,q,rfl⟩
         rw [decide_eq_true (rfl : tr = tr)]
         replace hbl:=below_drewN' hbl q
         generalize World.drewN _ q = v6 at *
         have hsp:=samePoint_any PA QA pc qc lo lo room room th th v6 (HS.out _ hbl).2.2.2.1.1 (HS.out _ hbl).2.2.2.1.2 (by have:=HTH.out.1; omega) (by have:=HTH.out.1; omega)
         rw [decide_eq_true (⟨rfl,rfl⟩ : room = room ∧ th = th)] at hsp
         obtain ⟨x0,x1⟩:=(HS.out _ hbl).2.2.1.1.w2
         obtain ⟨y0,y1⟩:=(HS.out _ hbl).2.2.1.2.w2
         have zx:=(HS.out _ hbl).2.2.1.1.lt
         have zy:=(HS.out _ hbl).2.2.1.2.lt
         go_wp2_with fail
         refine hsp.mono ?_
         clear hsp
         rintro e v7 ⟨rfl,hb⟩
         replace hbl:=below_up hbl hb
         clear hb x0 x1 y0 y1 zx zy
         go_wp2_with fail
         refine (ready_any _).mono ?_
         rintro e v8 ⟨rfl,hb⟩
         go_wp2_with fail
         go_ret
         exact ⟨rfl,(HS.out _ (below_up hbl hb)).2.2.2.2⟩
        ·have d1 : (we == 0) = false:=beq_eq_false_iff_ne.2 hw0
         clear hw0
         have hsm:=sameMap_yes A A' D D' ca ca' cd cd' lo lo rs rs' ds ds' st gl v3 (HS.out _ hbl).1.1 (HS.out _ hbl).1.2.1 (er_same HRS.out) (erD_same HDS.out)
         obtain ⟨a0,a1,a2,a3,e0,e1,e2,e3⟩:=Blk.eightC (HS.out _ hbl).1.2.2.1 (HS.out _ hbl).1.2.2.2
         have za:=(HS.out _ hbl).1.2.2.1.lt
         have zb:=(HS.out _ hbl).1.2.2.2.lt
         go_wp2_with fail
         refine hsm.mono ?_
         clear hsm
         rintro e v5 ⟨rfl,hb⟩
         replace hbl:=below_up hbl hb
         clear hb a0 a1 a2 a3 e0 e1 e2 e3 za zb
         go_wp2_with fail
         refine (equalS_any X Y cx cy lo lo tr tr _ (HS.out _ hbl).2.1.1 (HS.out _ hbl).2.1.2 (by omega) (by omega)).mono ?_
         rintro e v6 ⟨rfl,q,rfl⟩
         rw [decide_eq_true (rfl : tr = tr)]
         replace hbl:=below_drewN' hbl q
         generalize World.drewN _ q = v6 at *
         have hsp:=samePoint_any PA QA pc qc lo lo room room th th v6 (HS.out _ hbl).2.2.2.1.1 (HS.out _ hbl).2.2.2.1.2 (by have:=HTH.out.1; omega) (by have:=HTH.out.1; omega)
         rw [decide_eq_true (⟨rfl,rfl⟩ : room = room ∧ th = th)] at hsp
         obtain ⟨x0,x1⟩:=(HS.out _ hbl).2.2.1.1.w2
         obtain ⟨y0,y1⟩:=(HS.out _ hbl).2.2.1.2.w2
         have zx:=(HS.out _ hbl).2.2.1.1.lt
         have zy:=(HS.out _ hbl).2.2.1.2.lt
         go_wp2_with fail
         refine hsp.mono ?_
         clear hsp
         rintro e v7 ⟨rfl,hb⟩
         replace hbl:=below_up hbl hb
         clear hb x0 x1 y0 y1 zx zy
         go_wp2_with fail
         refine (ready_any _).mono ?_
         rintro e v8 ⟨rfl,hb⟩
         go_wp2_with fail
         go_ret
         exact ⟨rfl,(HS.out _ (below_up hbl hb)).2.2.2.2⟩
  ·have d0 : (te != 0) = true:=bne_iff_ne.2 h0
   go_wp2_with fail
   refine (ready_any _).mono ?_
   rintro e w5 ⟨rfl,hb⟩
   go_wp2_with fail
   go_ret
   exact ⟨rfl,(HS.out _ (below_up hbl hb)).2.2.2.2⟩
end Go.Proofs.YtpialnjfdbfkdaaGreatDoor
