/- Texts of this seat, laid together: LawLostIsLost. -/
import Derived.Test.YthchgkdhegaehaaGreatDoorBr41
import Derived.Test.YthchgkdhegaehaaGreatDoorBr39
import Derived.Test.YthchgkdhegaehaaGreatDoorBr40
/- For every list of numbers the law LostIsLost returns true and leaves the list as it was: its walk. -/
namespace Go.Proofs.YthchgkdhegaehaaGreatDoor
set_option linter.unusedVariables false
set_option linter.unusedSimpArgs false
open Go.RowKit Go.Sort

theorem OPts.cell {w : World} {base : Nat} {A : Option Addr} {d : Nat} {zs : List PtE} (h : OPts w base A d zs) {k : Nat} (hk : k < zs.length) : ∃ b off,A = some ⟨b,off,none⟩ ∧ b < w.heap.size ∧ w.cell? ⟨b,off + k * 2,none⟩ = some (.string ⟨zs[k].room.toArray⟩) ∧ w.cell? ⟨b,off + k * 2 + 1,none⟩ = some (.slice zs[k].B zs[k].th.length zs[k].c):=by
 obtain ⟨b,off,e,_,hb,hc⟩:=(Row.of_own h.row).2 (by omega)
 refine ⟨b,off,e,hb,?_,?_⟩
 ·exact hc (k * 2) _ ((flat_at encP 2 (fun _ => rfl) zs k hk 0 (by omega)).trans rfl)
 ·have:=hc (k * 2 + 1) _ ((flat_at encP 2 (fun _ => rfl) zs k hk 1 (by omega)).trans rfl); rw [← Nat.add_assoc] at this; exact this
theorem lost_from {rs : List RoomE} {ds : List DoorE} {T tr : List (List UInt8)} {st gl : List UInt8} {zs : List PtE} (h : LostOk rs ds T tr st gl zs) (hT : onceT (allT rs ds) = T) (hTI : ∀ x ∈ T,x ∈ thingsL) (hE : tricksE rs ds st gl tr = 0) {z : PtE} (hz : z ∈ zs) :
  fromE rs ds st gl tr z.room z.th = 0 ∧ ∀ n r,PathOk (nxX rs T ds tr [] id) (goalX rs gl) (tmX ds) (stX rs T z.room z.th) n r → r = ⟨[],0,false⟩:=by
 obtain ⟨h1,h2,_,h4⟩:=h.mem (by rw [← hT]; exact (onceT_spec _).1) hz
 refine ⟨?_,fun n r hr => ?_⟩
 ·unfold fromE
  rw [if_neg (by simp [hE]),if_neg (by simpa using h1),hT]
  unfold wantE
  rw [if_neg (by rw [thingsE_G hTI h2]; simp),if_neg]
  rw [List.any_eq_true]
  rintro ⟨x,hx,hn⟩
  simp only [Bool.not_eq_true',decide_eq_false_iff_not] at hn
  exact hn (h2.sub x hx)
 ·cases hi : r.is with
  | false => exact (hr.no hi).1
  | true =>
   obtain ⟨⟨d,hw⟩,_⟩:=hr.yes hi
   exact absurd hw (h4 _ _ _)

set_option maxHeartbeats 8000000 in
set_option maxRecDepth 100000 in
theorem lost_walk (A0 : Option Addr) (n c : Nat) (w : World) (hn : n ≤ 9223372036854775807)
  (hz : ∀ k,k < n → ∃ b off z,A0 = some ⟨b,off,none⟩ ∧ b < w.heap.size ∧ w.cell? ⟨b,off + k,none⟩ = some (.int .i64 z) ∧ I64 z) :
  LawCall 5 A0 n c w:=by
 have hstr:=str_make (c:=c) hn hz
 clear hz
 have hx : Below w.heap.size w (w.alloc (.cells #[.slice A0 n c,.int .i64 0] 25)):=(Below.refl _ _).alloc (Nat.le_refl _) _
 have hz0 : (w.alloc (.cells #[.slice A0 n c,.int .i64 0] 25)).heap.size = w.heap.size + 1:=by simp
 go_enter Tryz.func5,Tryz.ntmps5
 go_wp2_with fail
 generalize w.alloc (.cells #[.slice A0 n c,.int .i64 0] 25) = w0 at *
 clear hn
 refine (rightMapG_any w.heap.size 0 w0 hstr (by omega)).mono ?_
 clear hstr
 rintro e w1 ⟨A,ca,rs,D,cd,ds,st,gl,rfl,hmo,hrg,hdg,hr2,hr5,hd1,hd9,hst,hgl,hs1,hg1⟩
 have hz1:=hg1.size
 have HM0:=Lib.hid (mapE_G hrg hdg hr5 hd9 hst hgl)
 have HKB : Hid ((onceT (allK ds)).length ≤ 1000000000):=Lib.hid (by have:=allK_le ds; have:=onceT_le (allK ds); omega)
 have HNS : Hid (nS rs (onceT (allT rs ds)) ≤ 240):=Lib.hid (nS_few hr5 (few_G hrg hdg))
 have HTI:=Lib.hid (T_inG hrg hdg)
 have hmw:=hmo.toW (by omega) (by omega) hrg.b hdg.b
 have hx:=(hx.grown hg1 (by omega) (fun k hk => by injection hk with hk; omega)).alloc (by omega) (.cells #[.slice A rs.length ca,.slice D ds.length cd,.string ⟨st.toArray⟩,.string ⟨gl.toArray⟩] 29)
 have hbx0 : Blk (w1.alloc (.cells #[.slice A rs.length ca,.slice D ds.length cd,.string ⟨st.toArray⟩,.string ⟨gl.toArray⟩] 29)) w1.heap.size 29 #[.slice A rs.length ca,.slice D ds.length cd,.string ⟨st.toArray⟩,.string ⟨gl.toArray⟩]:=Blk.new _ _ _
 replace hmw:=hmw.alloc (.cells #[.slice A rs.length ca,.slice D ds.length cd,.string ⟨st.toArray⟩,.string ⟨gl.toArray⟩] 29)
 have hs:=hs1.alloc (.cells #[.slice A rs.length ca,.slice D ds.length cd,.string ⟨st.toArray⟩,.string ⟨gl.toArray⟩] 29)
 have hlo : w.heap.size < w0.heap.size:=by omega
 have hmb : w.heap.size < w1.heap.size:=by omega
 have hlw : w0.heap.size ≤ (w1.alloc (.cells #[.slice A rs.length ca,.slice D ds.length cd,.string ⟨st.toArray⟩,.string ⟨gl.toArray⟩] 29)).heap.size:=by simp; omega
 clear hmo hrg hdg hs1 hg1 hst hgl hz0 hz1
 go_upto_region 3 with (fail)
 generalize w1.alloc (.cells #[.slice A rs.length ca,.slice D ds.length cd,.string ⟨st.toArray⟩,.string ⟨gl.toArray⟩] 29) = w2 at *
 generalize w1.heap.size = mb at *
 generalize w0.heap.size = lo at *
 obtain ⟨a0,a1,a2,a3⟩:=hbx0.fourR
 have za:=hbx0.lt
 have hTL:=trickList_any w.heap.size (0 + 200) lo ca cd A rs D ds st gl w2 hs (by omega) hmw hlo
 unfold mapV at hTL
 simp only [encStr] at hTL
 go_wp2_with fail
 refine hTL.mono ?_
 clear hTL
 rintro e w3 ⟨TR,c2,tr,rfl,hto,htl,hs3,hg3⟩
 have hI : LrI w w3 lo mb (0 + 200 + 1100) A ca rs D cd ds st gl TR tr:=⟨hmw.grown hg3 hlo,(Row.of_own hto).weak hlw,hbx0.grown hg3 (by omega),hs3,hx.grown hg3 hx.size (fun k hk => by injection hk with hk; omega)⟩
 clear hmw hto hbx0 hs hs3 hx hg3 hlw a0 a1 a2 a3 za
 obtain ⟨te,hte⟩ : ∃ te,te = tricksE rs ds st gl tr:=⟨_,rfl⟩
 have HTE:=Lib.hid hte
 clear hte
 have hTF:=rTricksFault_any lo ca cd A rs D ds st gl lo c2 TR tr w3 hI.m hI.t (by omega)
 rw [← HTE.out] at hTF
 unfold mapV at hTF
 simp only [encStr] at hTF
 obtain ⟨a0,a1,a2,a3⟩:=hI.cells
 have za:=hI.b.lt
 go_wp2_with fail
 refine hTF.mono ?_
 clear hTF
 rintro e w4 ⟨rfl,hb⟩
 replace hI:=hI.below hb
 clear hb a0 a1 a2 a3 za
 by_cases h0 : te = 0
 ·subst h0
  have HR : Hid (Right rs ds st gl):=Lib.hid (right_of HM0.out)
  generalize hT : onceT (allT rs ds) = T at *
  have HT:=Lib.hid hT
  clear hT
  have hLO:=lost_any lo ca cd lo c2 A rs D ds st gl TR tr w4 hI.m hI.t (by omega)
  rw [HT.out,← HTE.out] at hLO
  unfold mapV at hLO
  simp only [encStr] at hLO
  obtain ⟨a0,a1,a2,a3⟩:=hI.cells
  have za:=hI.b.lt
  go_wp2_with fail
  refine hLO.mono ?_
  clear hLO
  rintro e w5 ⟨zs,ZA,zc,-,hok,rfl,hop,hzl,hb⟩
  have HLO:=Lib.hid (hok rfl)
  replace hI:=hI.below hb
  clear hok hb a0 a1 a2 a3 za
  have hRO:=reached_any lo ca cd lo c2 A rs D ds st gl TR tr w5 hI.m hI.t (by omega)
  rw [HT.out,← HTE.out] at hRO
  unfold mapV at hRO
  simp only [encStr] at hRO
  obtain ⟨a0,a1,a2,a3⟩:=hI.cells
  have za:=hI.b.lt
  go_wp2_with fail
  refine hRO.mono ?_
  clear hRO
  rintro e w6 ⟨l,LA,lc,-,hok,rfl,hol,hll,hb⟩
  have HRO:=Lib.hid (hok rfl)
  replace hI:=hI.below hb
  have hop:=hop.below hb
  have hol:=row_down0 (Row.of_own hol)
  clear hok hb a0 a1 a2 a3 za
  have HTU : Hid (T.Pairwise (· < ·)):=Lib.hid (by rw [← HT.out]; exact (onceT_spec _).1)
  have HS0 : Hid (decide (st ∈ l) = true):=Lib.hid (decide_eq_true (HRO.out.mem HR.out.st (th:=onceT (givesOf rs st)) (by rw [← st0_once]; exact .refl)))
  obtain ⟨a0,a1,a2,a3⟩:=hI.cells
  have za:=hI.b.lt
  have hcm:=containsS_any LA lc 0 l st w6 hol (by omega)
  rw [HS0.out] at hcm
  go_wp2_with fail
  refine hcm.mono ?_
  clear hcm
  rintro e w7 ⟨rfl,rfl⟩
  clear a0 a1 a2 a3 za
  have HST : Hid (∀ W,Below w6.heap.size w6 W → (LrI w W lo mb (0 + 200 + 1100) A ca rs D cd ds st gl TR tr) ∧ OPts W w4.heap.size ZA zc zs ∧ Row W 0 1 LA l.length (strs l)):=Lib.hid (fun W hb => ⟨hI.below hb,hop.below hb,hol.below hb⟩)
  clear hI hop hol
  go_wp2_with fail
  go_loopw [57] (fun v wr => ∃ k : Nat,k ≤ zs.length ∧ v = .int .i64 k ∧ Below w6.heap.size w6 wr) (fun v _ => zs.length - (intOf v).toNat)
  case atStart => exact ⟨0,Nat.zero_le _,rfl,Below.refl _ _⟩
  case round =>
   obtain ⟨k,hk,rfl,hbl⟩:=hrel
   by_cases hlt : k < zs.length
   ·obtain ⟨zb,zoff,rfl,zz,c0,c1⟩:=(HST.out _ hbl).2.1.cell hlt
    have hmem:=List.getElem_mem hlt
    have HFR:=Lib.hid (lost_from HLO.out HT.out HTI.out HTE.out.symm hmem)
    have HRC : Hid (decide (zs[k].room ∈ l) = true):=Lib.hid (by
     obtain ⟨h1,_,h3,_⟩:=HLO.out.mem HTU.out hmem
     exact decide_eq_true (HRO.out.mem h1 h3.never))
    have HZT : Hid (∀ W,Below w6.heap.size w6 W → Row W 0 1 zs[k].B zs[k].th.length (strs zs[k].th) ∧ zs[k].th.length ≤ 1000000000):=Lib.hid (fun W hb => ⟨row_down0 (Row.of_own ((HST.out _ hb).2.1.ths _ hmem)),by
     have:=ThOk.len HTU.out (HLO.out.mem HTU.out hmem).2.1
     have:=HR.out.few
     rw [HT.out] at this
     omega⟩)
    clear hmem
    obtain ⟨z,hz⟩ : ∃ z,z = zs[k]:=⟨_,rfl⟩
    rw [← hz] at HFR HRC HZT c0 c1
    clear hz
    obtain ⟨room,th,B,bc⟩:=z
    dsimp only at HFR HRC HZT c0 c1
    obtain ⟨a0,a1,a2,a3⟩:=(HST.out _ hbl).1.cells
    have za:=(HST.out _ hbl).1.b.lt
    go_upto_region 13 with (fail)
    clear c0 c1 zz a0 a1 a2 a3 za
    have hx : Blk (wr.alloc (.cells #[.string ⟨room.toArray⟩,.slice B th.length bc] 52)) wr.heap.size 52 #[.string ⟨room.toArray⟩,.slice B th.length bc]:=Blk.new _ _ _
    have hbl:=hbl.alloc hbl.size (.cells #[.string ⟨room.toArray⟩,.slice B th.length bc] 52)
    generalize wr.alloc (.cells #[.string ⟨room.toArray⟩,.slice B th.length bc] 52) = w8 at *
    generalize wr.heap.size = pb at *
    obtain ⟨a0,a1,a2,a3⟩:=(HST.out _ hbl).1.cells
    have za:=(HST.out _ hbl).1.b.lt
    obtain ⟨x0,x1⟩:=hx.w2
    have zx:=hx.lt
    have hfr:=from_any lo ca cd lo c2 0 bc A rs D ds st gl TR tr room B th w8 (HST.out _ hbl).1.m (HST.out _ hbl).1.t (by omega) (HZT.out _ hbl).1 (HZT.out _ hbl).2
    rw [HT.out,HFR.out.1] at hfr
    unfold mapV at hfr
    simp only [encStr] at hfr
    go_wp2_with fail
    refine hfr.mono ?_
    clear hfr
    rintro e w9 ⟨r,RA,rc,-,hok,rfl,-,hb⟩
    have hre:=HFR.out.2 _ _ (hok rfl)
    subst hre
    clear a0 a1 a2 a3 za x0 x1 zx hok
    have hbl:=(hbl.trans (hb.mono hbl.size)).alloc (hbl.trans (hb.mono hbl.size)).size (.cells #[.slice RA 0 rc,.int .i64 0] 34)
    have hx:=(hx.below hb).alloc (.cells #[.slice RA 0 rc,.int .i64 0] 34)
    clear hb
    dsimp only [List.length_nil]
    go_upto_region 14 with (fail)
    generalize w9.alloc (.cells #[.slice RA 0 rc,.int .i64 0] 34) = w10 at *
    obtain ⟨x0,x1⟩:=hx.w2
    have zx:=hx.lt
    have hcm:=containsS_any LA lc 0 l room w10 (HST.out _ hbl).2.2 (by omega)
    rw [HRC.out] at hcm
    go_wp2_with fail
    refine hcm.mono ?_
    clear hcm
    rintro e w11 ⟨rfl,rfl⟩
    clear x0 x1 zx
    go_wp2_with fail
    go_roundw
    case rel => exact ⟨k + 1,by omega,by go_num,hbl⟩
    case measure => simp [intOf]; omega
   ·have hlt0:=hlt
    have hI:=(HST.out _ hbl).1
    have hol:=(HST.out _ hbl).2.2
    have hFA:=Fastest_ok lo ca cd lo c2 A rs D ds st gl TR tr wr hI.m hI.t (by omega) HTE.out.symm
    rw [HT.out] at hFA
    unfold mapV at hFA
    simp only [encStr] at hFA
    obtain ⟨a0,a1,a2,a3⟩:=hI.cells
    have za:=hI.b.lt
    go_wp2_with fail
    refine hFA.mono ?_
    clear hFA
    rintro e w12 ⟨K1,t1,b1,P1,p1,rfl,hq1,_,hb⟩
    have HB1 : Hid (b1 = decide (gl ∈ l)):=Lib.hid (FaQ.reach HRO.out HR.out hq1)
    have hI:=(hI.below hb).alloc (.cells #[.slice P1 K1.length p1,.int .i64 t1] 34)
    have hol:=(hol.below hb).alloc (.cells #[.slice P1 K1.length p1,.int .i64 t1] 34)
    clear hq1 hb a0 a1 a2 a3 za
    go_upto_region 18 with (fail)
    generalize w12.alloc (.cells #[.slice P1 K1.length p1,.int .i64 t1] 34) = w13 at *
    obtain ⟨a0,a1,a2,a3⟩:=hI.cells
    have za:=hI.b.lt
    have hcm:=containsS_any LA lc 0 l gl w13 hol (by omega)
    rw [← HB1.out] at hcm
    have hbb : (b1 == b1) = true:=beq_self_eq_true b1
    go_wp2_with fail
    refine hcm.mono ?_
    clear hcm
    rintro e w14 ⟨rfl,rfl⟩
    clear a0 a1 a2 a3 za
    go_wp2_with fail
    refine (ready_any _).mono ?_
    rintro e w15 ⟨rfl,hb⟩
    replace hI:=hI.below hb
    go_wp2_with fail
    go_ret
    exact ⟨rfl,hI.x⟩
 ·have d0 : (te != 0) = true:=bne_iff_ne.2 h0
  go_wp2_with fail
  refine (ready_any _).mono ?_
  rintro e w5 ⟨rfl,hb⟩
  replace hI:=hI.below hb
  go_wp2_with fail
  go_ret
  exact ⟨rfl,hI.x⟩

end Go.Proofs.YthchgkdhegaehaaGreatDoor
