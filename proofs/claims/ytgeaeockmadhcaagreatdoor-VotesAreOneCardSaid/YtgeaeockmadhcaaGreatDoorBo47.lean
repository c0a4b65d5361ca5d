/- Texts of this seat, laid together: VpA. -/
import Derived.Deep.DeepCutAuto
import Derived.Deep.CutRange
import Derived.Handy
import Derived.Test.YtgeaeockmadhcaaGreatDoorBo21
import Derived.Test.YtgeaeockmadhcaaGreatDoorBo25
import Derived.Test.YtgeaeockmadhcaaGreatDoorBo33
import Derived.Test.YtgeaeockmadhcaaGreatDoorBo24
import Derived.Test.YtgeaeockmadhcaaGreatDoorBo46
import Derived.Test.YtgeaeockmadhcaaGreatDoorBo16
/- For every list of numbers the law VotesAreOne returns true and leaves the list av it was: its walk. -/
namespace Go.Proofs.YtgeaeockmadhcaaGreatDoor
set_option linter.unusedVariables false
set_option linter.unusedSimpArgs false
open Go.RowKit Go.Sort

theorem votesE_sub {l l' : List VoteE} (h : votesE l = 0) (hs : l'.Sublist l) : votesE l' = 0:=by
 have h1:=(votesE_iff l).1 h
 exact (votesE_iff l').2 ⟨Nat.le_trans hs.length_le h1.1,fun v hv => h1.2.1 v (hs.subset hv),h1.2.2.sublist hs⟩
theorem mergeParts_any (lo lo' c d : Nat) (A B : Option Addr) (us vs all : List VoteE) (w : World) (hR : TwoR w lo lo' A B us vs) (h0 : votesE all = 0) (hal : all.length ≤ 15) (hl : us.length ≤ 15) (hl' : vs.length ≤ 15) (ha : us.Sublist all) (hb : vs.Sublist all) (hall : ∀ v ∈ all,v ∈ us ∨ v ∈ vs) :
  Calls Tryz.prog 17 #[.slice A us.length c,.slice B vs.length d] w fun e w' => ∃ (R : Option Addr) (rc : Nat),e = .returned (.tuple #[.slice R all.length rc,.int .i64 0]) ∧ w'.ownsRow w.heap.size 37 4 (.slice R all.length rc) all.length (all.flatMap encV) ∧ Below w.heap.size w w':=by
 refine (merge_any lo lo' c d A B us vs w hR (by omega)).mono ?_
 rintro e w' ⟨hb9,-,-,h4⟩
 have hp:=((votesE_iff all).1 h0).2.2
 have hfe : firstE [votesE us,votesE vs] = 0:=by rw [votesE_sub h0 ha,votesE_sub h0 hb]; decide
 have hag : Agree us vs:=fun x hx y hy hk => one_key hp (ha.subset hx) (hb.subset hy) hk
 obtain ⟨R,rc,M,hM,hs,rfl,ho⟩:=h4 hfe hag
 have he : compL M = all:=halves_one hp (fun v hv => ha.subset hv) (fun v hv => hb.subset hv) hall hM hs
 rw [he] at ho ⊢
 exact ⟨R,rc,rfl,ho,hb9⟩
set_option maxHeartbeats 8000000 in
set_option maxRecDepth 100000 in
theorem votesOne_walk (A0 : Option Addr) (n c : Nat) (w : World) (hn : n ≤ 9223372036854775807)
  (hz : ∀ k,k < n → ∃ b off z,A0 = some ⟨b,off,none⟩ ∧ b < w.heap.size ∧ w.cell? ⟨b,off + k,none⟩ = some (.int .i64 z) ∧ I64 z) :
  LawCall 4 A0 n c w:=by
 have hstr:=str_make (c:=c) hn hz
 clear hz
 have hx : Below w.heap.size w (w.alloc (.cells #[.slice A0 n c,.int .i64 0] 25)):=(Below.refl _ _).alloc (Nat.le_refl _) _
 have hz0 : (w.alloc (.cells #[.slice A0 n c,.int .i64 0] 25)).heap.size = w.heap.size + 1:=by simp
 go_enter Tryz.func4,Tryz.ntmps4
 go_wp2_with fail
 generalize w.alloc (.cells #[.slice A0 n c,.int .i64 0] 25) = w0 at *
 clear hn
 refine (rightVotes_any w.heap.size 0 5 w0 hstr (by omega) (by omega)).mono ?_
 clear hstr
 rintro e w1 ⟨VA,vc,vs,rfl,hvo,hvl,hvb,hv0,hs,hg⟩
 replace hx:=hx.grown hg (by omega) (fun k hk => by injection hk with hk; omega)
 have hz1:=hg.size
 have HVB:=Lib.hid hvb
 have HV0:=Lib.hid hv0
 clear hg hvb hv0
 go_wp2_with fail
 refine (judgeList_any w.heap.size _ w1 hs (by omega)).mono ?_
 clear hs
 rintro e w2 ⟨JA,jc,js,rfl,hjo,hjl,hjb,hs,hg⟩
 replace hx:=hx.grown hg (by omega) (fun k hk => by injection hk with hk; omega)
 have hz2:=hg.size
 replace hvo:=own_grown hvo hg (by omega)
 have HJB:=Lib.hid hjb
 clear hg hjb
 go_wp2_with fail
 refine (quorumOf_any w.heap.size _ w2 hs (by omega)).mono ?_
 clear hs
 rintro e w3 ⟨q,rfl,hs,hg⟩
 replace hx:=hx.grown hg (by omega) (fun k hk => by injection hk with hk; omega)
 have hz3:=hg.size
 replace hvo:=own_grown hvo hg (by omega)
 replace hjo:=own_grown hjo hg (by omega)
 clear hg
 unfold quoV
 go_wp2_with fail
 refine (range_any w.heap.size _ 0 120 w3 hs (by omega) (by omega) (by omega) (by omega)).mono ?_
 clear hs
 rintro e w4 ⟨t,rfl,ht0,ht1,hs,hg⟩
 replace hx:=hx.grown hg (by omega) (fun k hk => by injection hk with hk; omega)
 have hz4:=hg.size
 replace hvo:=own_grown hvo hg (by omega)
 replace hjo:=own_grown hjo hg (by omega)
 clear hg
 go_upto_region 3 with (fail)
 have hV : VoW w4 w0.heap.size w1.heap.size VA JA vs js:=⟨Row.of_own hvo,Row.of_own hjo,by omega,by omega,fun v hv => ⟨by have:=(HVB.out v hv).run; omega,by have:=who_len (HVB.out v hv).who; omega⟩,fun j hj => by have:=jud_len (HJB.out j hj); omega⟩
 have hjw : ∀ a,JA = some a → a.block < w4.heap.size:=fun a ha => (hjo.lt a.block (by rw [ha]; rfl)).2
 have HVLT : Hid (∀ a,VA = some a → a.block < w4.heap.size):=Lib.hid (fun a ha => (hvo.lt a.block (by rw [ha]; rfl)).2)
 clear hvo hjo
 have hjb : Blk ((w4.alloc (.cells #[.slice JA js.length jc] 28)).alloc (.cells #[.int .i64 q.least,.int .i64 q.num,.int .i64 q.den] 33)) w4.heap.size 28 #[.slice JA js.length jc]:=(Blk.new _ _ _).alloc _
 have hqb : Blk ((w4.alloc (.cells #[.slice JA js.length jc] 28)).alloc (.cells #[.int .i64 q.least,.int .i64 q.num,.int .i64 q.den] 33)) (w4.heap.size + 1) 33 #[.int .i64 q.least,.int .i64 q.num,.int .i64 q.den]:=Blk.at1 _ (by simp)
 replace hV:=(hV.below ((Below.refl _ _).alloc (Nat.le_refl _) (.cells #[.slice JA js.length jc] 28)))
 replace hV:=(hV.below ((Below.refl _ _).alloc (Nat.le_refl _) (.cells #[.int .i64 q.least,.int .i64 q.num,.int .i64 q.den] 33)))
 replace hs:=(hs.alloc (.cells #[.slice JA js.length jc] 28)).alloc (.cells #[.int .i64 q.least,.int .i64 q.num,.int .i64 q.den] 33)
 replace hx:=hx.alloc hx.size (.cells #[.slice JA js.length jc] 28)
 replace hx:=hx.alloc hx.size (.cells #[.int .i64 q.least,.int .i64 q.num,.int .i64 q.den] 33)
 have hgb1 : w.heap.size < w4.heap.size:=by omega
 have hwl1 : w.heap.size < w0.heap.size:=by omega
 have hwl2 : w.heap.size < w1.heap.size:=by omega
 have hjw2 : ∀ a,JA = some a → a.block < ((w4.alloc (.cells #[.slice JA js.length jc] 28)).alloc (.cells #[.int .i64 q.least,.int .i64 q.num,.int .i64 q.den] 33)).heap.size:=fun a ha => by have:=hjw a ha; simp; omega
 have hbz : w4.heap.size + 1 < ((w4.alloc (.cells #[.slice JA js.length jc] 28)).alloc (.cells #[.int .i64 q.least,.int .i64 q.num,.int .i64 q.den] 33)).heap.size:=by simp
 clear hz0 hz1 hz2 hz3 hz4 hjw HVLT
 generalize (w4.alloc (.cells #[.slice JA js.length jc] 28)).alloc (.cells #[.int .i64 q.least,.int .i64 q.num,.int .i64 q.den] 33) = w5 at *
 generalize hqn : w4.heap.size + 1 = qb at *
 have hjq : w4.heap.size < qb:=by omega
 clear hqn
 generalize w4.heap.size = jb at *
 generalize w0.heap.size = lo1 at *
 generalize w1.heap.size = lo2 at *
 have hjs1 : js.length ≤ 1000000:=hV.jl
 obtain ⟨q0,q1,q2⟩ : _ ∧ _ ∧ _:=⟨hqb.cell 0,hqb.cell 1,hqb.cell 2⟩
 have j0:=hjb.cell 0
 simp only [Q0,Q2,Q1] at q0 q1 q2 j0
 have ql:=hqb.lt
 have jl:=hjb.lt
 go_wp2_with fail
 refine (rjudgesFault_any _ _ _ _ q _ hV.j hV.jl hV.js_).mono ?_
 rintro e w6 ⟨rfl,hb⟩
 clear q0 q1 q2 j0 ql jl
 replace hx:=below_up hx hb
 replace hV:=hV.below hb
 replace hqb:=hqb.below hb
 replace hjb:=hjb.below hb
 replace hs:=hs.keep hb
 have hjw6 : ∀ a,JA = some a → a.block < w6.heap.size:=fun a ha => by have:=hjw2 a ha; have:=hb.size; omega
 clear hb hjw2
 obtain ⟨je,hje⟩ : ∃ je,je = judgesE js q:=⟨_,rfl⟩
 rw [← hje]
 by_cases h0 : je = 0
 ·subst h0
  have hj0 : judgesE js q = 0:=hje.symm
  have hvi:=(votesE_iff vs).1 HV0.out
  have hq1:=(quoE_ok (judgesE_ok hj0).2.2.2).1
  have HRUL : Hid (∀ run : List UInt8,keyB run = true → ∃ (how since yes no : Int),ruledV vs js q run t = .tuple #[.agg #[.string ⟨run.toArray⟩,.int .i64 how,.int .i64 since,.int .i64 yes,.int .i64 no],.int .i64 0] ∧ ruledV (vs.filter (kB js)) js q run t = .tuple #[.agg #[.string ⟨run.toArray⟩,.int .i64 how,.int .i64 since,.int .i64 yes,.int .i64 no],.int .i64 0]):=Lib.hid (fun run hk => by
   have h1 : runE vs js q run t = 0:=by
    unfold runE
    rw [HV0.out,hj0,if_neg (by decide),if_neg (by rw [hk]; decide),if_neg (by omega)]
   have h2 : runE (vs.filter (kB js)) js q run t = 0:=by
    unfold runE
    rw [votesE_sub HV0.out List.filter_sublist,hj0,if_neg (by decide),if_neg (by rw [hk]; decide),if_neg (by omega)]
   have h3 : ruledF (vs.filter (kB js)) js q run t = ruledF vs js q run t:=ruledF_drop hq1 hvi.2.2 (fun v hv => (hvi.2.1 v hv).lo) (kB js) (fun v hv => by
    unfold noW
    unfold kB at hv
    have h9 : weightF js v.who v.at_ = 0:=by simpa using hv
    omega)
   refine ⟨(ruledF vs js q run t).how,(ruledF vs js q run t).since,(ruledF vs js q run t).yes,(ruledF vs js q run t).no,?_,?_⟩
   ·unfold ruledV; rw [if_pos h1]; rfl
   ·unfold ruledV; rw [if_pos h2,h3]; rfl)
  have HRT:=Lib.hid (fun (W : World) (run : List UInt8) (lo3 : Nat) (A : Option Addr) (cc : Nat) (us : List VoteE) (h : VoW W lo3 lo2 A JA us js) => ruledT_any _ _ cc jc A JA us js q run t W h)
  clear hje hj0 hvi hq1
  have hvl15 : vs.length ≤ 15:=by omega
  go_wp2_with fail
  refine (halfVotes_any w.heap.size _ lo1 vc VA vs _ hs (by omega) hV.v hwl1 (by omega)).mono ?_
  clear hs
  rintro e w7 ⟨A1,B1,c1,d1,av,bv,rfl,hpt,hT⟩
  have hg:=hT.gr
  replace hx:=hx.grown hg (by have:=hT.lt; have:=hx.size; omega) (fun k hk => by injection hk with hk; omega)
  replace hV:=hV.grown hg hwl1 hwl2
  replace hqb:=hqb.grownV hg (by omega)
  replace hjb:=hjb.grownV hg (by omega)
  have hz67:=hg.size
  have HPT:=Lib.hid hpt
  have hla : av.length ≤ 15:=Nat.le_trans hpt.sa.length_le hvl15
  have hlb : bv.length ≤ 15:=Nat.le_trans hpt.sb.length_le hvl15
  have hTR : TwoR w7 w6.heap.size w6.heap.size A1 B1 av bv:=⟨Row.of_own hT.oa,Row.of_own hT.ob,fun v hv => hV.vs_ v (hpt.sa.subset hv),fun v hv => hV.vs_ v (hpt.sb.subset hv)⟩
  have hjw7 : ∀ a,JA = some a → a.block < w7.heap.size:=fun a ha => by have:=hjw6 a ha; omega
  clear hT hg hpt hz67 hjw6
  go_wp2_with fail
  refine (mergeParts_any _ _ c1 d1 A1 B1 av bv vs w7 hTR HV0.out hvl15 hla hlb HPT.out.sa HPT.out.sb HPT.out.all).mono ?_
  rintro e w8 ⟨X,xc,rfl,hxo,hb⟩
  replace hx:=below_up hx hb
  replace hV:=hV.below hb
  replace hqb:=hqb.below hb
  replace hjb:=hjb.below hb
  replace hTR:=hTR.below hb
  have hjw8 : ∀ a,JA = some a → a.block < w8.heap.size:=fun a ha => by have:=hjw7 a ha; have:=hb.size; omega
  clear hb hjw7
  go_wp2_with fail
  refine (mergeParts_any _ _ d1 c1 B1 A1 bv av vs w8 ⟨hTR.b,hTR.a,hTR.bs_,hTR.as_⟩ HV0.out hvl15 hlb hla HPT.out.sb HPT.out.sa (fun v hv => (HPT.out.all v hv).symm)).mono ?_
  rintro e w9 ⟨Y,yc,rfl,hyo,hb⟩
  replace hx:=below_up hx hb
  replace hV:=hV.below hb
  replace hqb:=hqb.below hb
  replace hjb:=hjb.below hb
  replace hxo:=own_keep hxo hb
  have hjw9 : ∀ a,JA = some a → a.block < w9.heap.size:=fun a ha => by have:=hjw8 a ha; have:=hb.size; omega
  clear hb hjw8 hTR HPT hla hlb
  have hXV : VoW w9 w7.heap.size lo2 X JA vs js:=⟨Row.of_own hxo,hV.j,hV.vl,hV.jl,hV.vs_,hV.js_⟩
  have hYR:=Row.of_own hyo
  clear hxo hyo
  go_wp2_with fail
  refine (equalVt_any X Y xc yc _ _ vs vs _ hXV.v hYR (by omega) (by omega)).mono ?_
  rintro e w10 ⟨rfl,qn,rfl⟩
  have hdt : decide (vs = vs) = true:=by simp
  rw [hdt]
  clear hYR hdt
  go_wp2_with fail
  refine (equalVt_any X VA xc vc _ _ vs vs _ (by exact hXV.v) (by exact hV.v) (by omega) (by omega)).mono ?_
  rintro e w11 ⟨rfl,qn2,rfl⟩
  have hdt : decide (vs = vs) = true:=by simp
  rw [hdt]
  clear hdt
  have hbd : Below w9.heap.size w9 ((w9.drewN qn).drewN qn2):=below_drewN' (below_drewN' (Below.refl _ _) _) _
  replace hx:=below_up hx hbd
  replace hV:=hV.below hbd
  replace hqb:=hqb.below hbd
  replace hjb:=hjb.below hbd
  replace hXV:=hXV.below hbd
  have hjw10 : ∀ a,JA = some a → a.block < ((w9.drewN qn).drewN qn2).heap.size:=fun a ha => by have:=hjw9 a ha; have:=hbd.size; omega
  clear hbd hjw9
  generalize (w9.drewN qn).drewN qn2 = w10 at *
  generalize w7.heap.size = lo3 at *
  go_wp2_with fail
  refine (cloneV_any VA vc _ vs _ hV.v (by omega)).mono ?_
  rintro e w11 ⟨SA,sc,rfl,hso,hb⟩
  have HJW : Hid (JwC w11 jb JA jc js):=Lib.hid ⟨hjb.below hb,(hV.below hb).j.weak (Nat.zero_le _),hjs1⟩
  have hjb10 : jb < w10.heap.size:=hjb.lt
  have HD:=Lib.hid (deleteZ_any SA sc jb w10.heap.size JA jc js vs w11 hso HJW.out hjb10 hjw10 (by omega))
  have HHO:=Lib.hid hso.lt
  clear hso
  go_wp2_with fail
  refine HD.out.mono ?_
  clear HD HJW
  rintro e w12 ⟨rfl,hso,hg⟩
  have hy : Below w10.heap.size w10 w12:=Below.grown hb hg hb.size (fun k hk => (HHO.out k hk).1)
  clear hb hg HHO
  replace hx:=below_up hx hy
  replace hqb:=hqb.below hy
  replace hjb:=hjb.below hy
  replace hXV:=hXV.below hy
  have hSV : VoW w12 w10.heap.size lo2 SA JA (vs.filter (kB js)) js:=⟨Row.of_own hso,hXV.j,Nat.le_trans (List.length_filter_le _ _) (by omega),hXV.jl,fun v hv => hXV.vs_ v (List.mem_filter.1 hv).1,hXV.js_⟩
  have hfl : (vs.filter (kB js)).length ≤ 15:=Nat.le_trans (List.length_filter_le _ _) hvl15
  clear hso hV hy hjw10 hjb10
  generalize vs.filter (kB js) = fs at *
  generalize w10.heap.size = lo4 at *
  have hnb : Blk (w12.alloc (.cells #[.string ⟨#[114,49]⟩,.string ⟨#[114,50]⟩,.string ⟨#[114,51]⟩] 9)) w12.heap.size 9 #[.string ⟨#[114,49]⟩,.string ⟨#[114,50]⟩,.string ⟨#[114,51]⟩]:=Blk.new _ _ _
  have hba : Below w12.heap.size w12 (w12.alloc (.cells #[.string ⟨#[114,49]⟩,.string ⟨#[114,50]⟩,.string ⟨#[114,51]⟩] 9)):=(Below.refl _ _).alloc (Nat.le_refl _) _
  replace hx:=below_up hx hba
  replace hqb:=hqb.below hba
  replace hjb:=hjb.below hba
  replace hXV:=hXV.below hba
  replace hSV:=hSV.below hba
  clear hba
  go_wp2_with fail
  generalize w12.alloc (.cells #[.string ⟨#[114,49]⟩,.string ⟨#[114,50]⟩,.string ⟨#[114,51]⟩] 9) = w13 at *
  generalize w12.heap.size = nb at *
  go_loopw [79] (fun i wr => ∃ k : Nat,k ≤ 3 ∧ i = .int .i64 k ∧ Below w.heap.size w wr ∧ Blk wr nb 9 #[.string ⟨#[114,49]⟩,.string ⟨#[114,50]⟩,.string ⟨#[114,51]⟩] ∧ Blk wr jb 28 #[.slice JA js.length jc] ∧ Blk wr qb 33 #[.int .i64 q.least,.int .i64 q.num,.int .i64 q.den] ∧ VoW wr lo3 lo2 X JA vs js ∧ VoW wr lo4 lo2 SA JA fs js) (fun i _ => 3 - (intOf i).toNat)
  case atStart => exact ⟨0,by omega,rfl,hx,hnb,hjb,hqb,hXV,hSV⟩
  case round =>
   clear hx hnb hjb hqb hXV hSV
   obtain ⟨k,hk,rfl,hx,hnb,hjb,hqb,hXV,hSV⟩:=hrel
   by_cases hlt : k < 3
   ·have HRUN : Hid (∃ run : List UInt8,keyB run = true ∧ wr.cell? ⟨nb,k,none⟩ = some (.string ⟨run.toArray⟩)):=Lib.hid (by
     have hc:=fun i => hnb.cell i
     rcases (show k = 0 ∨ k = 1 ∨ k = 2 by omega) with rfl | rfl | rfl
     ·exact ⟨[114,49],by decide,by simpa using hc 0⟩
     ·exact ⟨[114,50],by decide,by simpa using hc 1⟩
     ·exact ⟨[114,51],by decide,by simpa using hc 2⟩)
    obtain ⟨run,hkr,r0⟩:=HRUN.out
    obtain ⟨how,since,yes,no,hv1,hv2⟩:=HRUL.out run hkr
    have HV1:=Lib.hid hv1
    have HV2:=Lib.hid hv2
    obtain ⟨q0,q1,q2⟩ : _ ∧ _ ∧ _:=⟨hqb.cell 0,hqb.cell 1,hqb.cell 2⟩
    have j0:=hjb.cell 0
    simp only [Q0,Q2,Q1] at q0 q1 q2 j0
    have ql:=hqb.lt
    have jl:=hjb.lt
    have nl:=hnb.lt
    have hk3 : (k : Int) < 3:=by omega
    clear HRUN hkr hv1 hv2 hlt
    go_wp2_with fail
    refine (HRT.out _ run lo3 X xc vs hXV).mono ?_
    rintro e wa ⟨rfl,hb⟩
    rw [HV1.out]
    replace hx:=below_up hx hb
    replace hqb:=hqb.below hb
    replace hjb:=hjb.below hb
    replace hnb:=hnb.below hb
    replace hXV:=hXV.below hb
    replace hSV:=hSV.below hb
    clear hb q0 q1 q2 j0 ql jl nl r0
    have hal : Below wa.heap.size wa (wa.alloc (.cells #[.string ⟨run.toArray⟩,.int .i64 how,.int .i64 since,.int .i64 yes,.int .i64 no] 56)):=(Below.refl _ _).alloc (Nat.le_refl _) _
    have hrb : Blk (wa.alloc (.cells #[.string ⟨run.toArray⟩,.int .i64 how,.int .i64 since,.int .i64 yes,.int .i64 no] 56)) wa.heap.size 56 #[.string ⟨run.toArray⟩,.int .i64 how,.int .i64 since,.int .i64 yes,.int .i64 no]:=Blk.new _ _ _
    replace hx:=below_up hx hal
    replace hqb:=hqb.below hal
    replace hjb:=hjb.below hal
    replace hnb:=hnb.below hal
    replace hXV:=hXV.below hal
    replace hSV:=hSV.below hal
    clear hal
    obtain ⟨q0,q1,q2⟩ : _ ∧ _ ∧ _:=⟨hqb.cell 0,hqb.cell 1,hqb.cell 2⟩
    have j0:=hjb.cell 0
    simp only [Q0,Q2,Q1] at q0 q1 q2 j0
    have ql:=hqb.lt
    have jl:=hjb.lt
    go_upto_region 15 with (fail)
    generalize wa.alloc (.cells #[.string ⟨run.toArray⟩,.int .i64 how,.int .i64 since,.int .i64 yes,.int .i64 no] 56) = wb at *
    generalize wa.heap.size = rb at *
    go_wp2_with fail
    refine (HRT.out _ run lo4 SA sc fs hSV).mono ?_
    rintro e wc ⟨rfl,hb⟩
    rw [HV2.out]
    replace hx:=below_up hx hb
    replace hqb:=hqb.below hb
    replace hjb:=hjb.below hb
    replace hnb:=hnb.below hb
    replace hrb:=hrb.below hb
    replace hXV:=hXV.below hb
    replace hSV:=hSV.below hb
    clear hb q0 q1 q2 j0 ql jl
    have hal : Below wc.heap.size wc (wc.alloc (.cells #[.string ⟨run.toArray⟩,.int .i64 how,.int .i64 since,.int .i64 yes,.int .i64 no] 56)):=(Below.refl _ _).alloc (Nat.le_refl _) _
    obtain ⟨r0,r1,r2,r3,r4⟩ : _ ∧ _ ∧ _ ∧ _ ∧ _:=⟨hrb.cell 0,hrb.cell 1,hrb.cell 2,hrb.cell 3,hrb.cell 4⟩
    simp only [Q0,Q2,Q1] at r0 r1 r2 r3 r4
    have rl:=hrb.lt
    replace hx:=below_up hx hal
    replace hqb:=hqb.below hal
    replace hjb:=hjb.below hal
    replace hnb:=hnb.below hal
    replace hXV:=hXV.below hal
    replace hSV:=hSV.below hal
    clear hal hrb HV1 HV2
    go_wp2_with fail
    go_roundw
    case rel => exact ⟨k + 1,by omega,by go_num,hx,hnb,hjb,hqb,hXV,hSV⟩
    case measure => simp [intOf]; omega
   ·have hk3 : k = 3:=by omega
    subst hk3
    clear hXV hSV hqb hjb hnb HRUL HRT
    go_wp2_with fail
    refine (ready_any _).mono ?_
    rintro e w14 ⟨rfl,hb⟩
    go_wp2_with fail
    go_ret
    exact ⟨rfl,below_up hx hb⟩
 ·have d0 : (je != 0) = true:=by simpa using h0
  clear h0 hje hV hqb hjb HVB HJB HV0 hs
  go_wp2_with fail
  refine (ready_any _).mono ?_
  rintro e w11 ⟨rfl,hb⟩
  go_wp2_with fail
  go_ret
  exact ⟨rfl,below_up hx hb⟩
end Go.Proofs.YtgeaeockmadhcaaGreatDoor
