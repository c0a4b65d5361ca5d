/- Texts of this seat, laid together: TwE. -/
import Derived.Test.YtjggbpchmbdocaaGreatDoorBt45
import Derived.Test.YtjggbpchmbdocaaGreatDoorBt48
/- The walks of the reference's SlowerOf and of Slower. -/
namespace Go.Proofs.YtjggbpchmbdocaaGreatDoor
set_option linter.unusedVariables false
set_option linter.unusedSimpArgs false
open Go.RowKit Go.Sort Go.Maps Go.WideMaps

theorem shutL_len (ds : List DoorE) (k : List UInt8) : (shutL ds k).length ≤ ds.length:=List.length_filter_le _ _
theorem MapW.shut {w : World} {lo lo' : Nat} {A B D : Option Addr} {rs : List RoomE} {ds : List DoorE} {k : List UInt8} (h : MapW w lo A rs D ds) (hB : Row w lo' 7 B (shutL ds k).length ((shutL ds k).flatMap encD)) : MapW w 0 A rs B (shutL ds k):=by
 have hs : ∀ d ∈ shutL ds k,d ∈ ds:=fun d hd => (shut_mem.1 hd).1
 exact ⟨row_down0 h.rooms,row_down0 hB,fun r hr => ⟨row_down0 (h.gives r hr).1,(h.gives r hr).2⟩,fun d hd => ⟨row_down0 (h.needs d (hs d hd)).1,(h.needs d (hs d hd)).2⟩,fun d hd => ⟨row_down0 (h.takes d (hs d hd)).1,(h.takes d (hs d hd)).2⟩,
  ⟨h.s.rl,Nat.le_trans (shutL_len ds k) h.s.dl,h.s.rk,h.s.rg,fun d hd => h.s.dk d (hs d hd),fun d hd => h.s.dt d (hs d hd),fun d hd => h.s.dn d (hs d hd),fun d hd => h.s.dx d (hs d hd)⟩⟩
def SloPost (a b : Int) (w : World) (e : Ending) (w' : World) : Prop :=
 e = .returned (.tuple #[.int .i64 ((if b < 0 then 0 else b) - (if a < 0 then 0 else a)),.bool (!decide (a < 0) && !decide (b < 0))]) ∧ Below w.heap.size w w'
set_option maxHeartbeats 8000000 in
set_option maxRecDepth 100000 in
theorem slowerOf_any (lo ca cd lo2 c2 : Nat) (A : Option Addr) (rs : List RoomE) (D : Option Addr) (ds : List DoorE) (st gl : List UInt8) (TR : Option Addr) (tr : List (List UInt8)) (key : List UInt8) (w : World)
  (hA : MapW w lo A rs D ds) (hm : mapE rs ds st gl = 0) (htr : Row w lo2 1 TR tr.length (strs tr)) (htl : tr.length ≤ 1000000) :
  Calls Tryz.prog 44 #[.agg #[.slice A rs.length ca,.slice D ds.length cd,.string ⟨st.toArray⟩,.string ⟨gl.toArray⟩],.slice TR tr.length c2,.string ⟨key.toArray⟩] w (SloPost (timeT rs ds st gl tr) (timeT rs (shutL ds key) st gl tr) w):=by
 have hb0 : Below w.heap.size w ((w.alloc (.cells #[.slice A rs.length ca,.slice D ds.length cd,.string ⟨st.toArray⟩,.string ⟨gl.toArray⟩] 29)).alloc (.cells #[.string ⟨key.toArray⟩] 9)):=(by repeat (first | exact Below.refl _ _ | refine Below.alloc ?_ (by first | omega | (simp; omega) | simp) _ | refine below_drewN' ?_ _ | refine Below.drew ?_))
 have hmb : Blk ((w.alloc (.cells #[.slice A rs.length ca,.slice D ds.length cd,.string ⟨st.toArray⟩,.string ⟨gl.toArray⟩] 29)).alloc (.cells #[.string ⟨key.toArray⟩] 9)) w.heap.size 29 #[.slice A rs.length ca,.slice D ds.length cd,.string ⟨st.toArray⟩,.string ⟨gl.toArray⟩]:=(Blk.new _ _ _).alloc _;have hkb : Blk ((w.alloc (.cells #[.slice A rs.length ca,.slice D ds.length cd,.string ⟨st.toArray⟩,.string ⟨gl.toArray⟩] 29)).alloc (.cells #[.string ⟨key.toArray⟩] 9)) (w.heap.size + 1) 9 #[.string ⟨key.toArray⟩]:=Blk.at_ _ (by simp);have HQ : Hid (∀ (W : World),Below w.heap.size w W → Calls Tryz.prog 16 #[.agg #[.slice A rs.length ca,.slice D ds.length cd,.string ⟨st.toArray⟩,.string ⟨gl.toArray⟩],.slice TR tr.length c2] W (QvPost (timeT rs ds st gl tr) W)):=Lib.hid (fun W h => (quickTime_any lo ca cd lo2 c2 A rs D ds st gl TR tr W (hA.below h) hm (htr.below h) htl).mono fun _ _ h => h.v);have HQ2 : Hid (∀ (W : World) (B : Option Addr) (d lo' : Nat),Below w.heap.size w W → Row W lo' 7 B (shutL ds key).length ((shutL ds key).flatMap encD) → Calls Tryz.prog 16 #[.agg #[.slice A rs.length ca,.slice B (shutL ds key).length d,.string ⟨st.toArray⟩,.string ⟨gl.toArray⟩],.slice TR tr.length c2] W (QvPost (timeT rs (shutL ds key) st gl tr) W)):=Lib.hid (fun W B d lo' h hB => (quickTime_any 0 ca d lo2 c2 A rs B (shutL ds key) st gl TR tr W ((hA.below h).shut hB) (mapE_shut hm key) (htr.below h) htl).mono fun _ _ h => h.v);have HD : Hid (∀ W,Below w.heap.size w W → Row W lo 7 D ds.length (ds.flatMap encD)):=Lib.hid (fun W h => hA.doors.below h)
 have hdl : ds.length ≤ 1000000:=by have:=(right_of hm).dl; omega
 clear hA hm htr htl;generalize timeT rs ds st gl tr = fa at *;generalize timeT rs (shutL ds key) st gl tr = fb at *
 obtain ⟨post',hpost⟩ : ∃ q,q = SloPost fa fb w:=⟨_,rfl⟩
 rw [← hpost];have HPO:=Lib.hid hpost;clear hpost
 go_enter Tryz.func44,Tryz.ntmps44
 go_upto_region 1 with (fail);have hkz : w.heap.size ≤ w.heap.size + 1:=Nat.le_succ _;generalize (w.alloc (.cells #[.slice A rs.length ca,.slice D ds.length cd,.string ⟨st.toArray⟩,.string ⟨gl.toArray⟩] 29)).alloc (.cells #[.string ⟨key.toArray⟩] 9) = W1 at *;generalize w.heap.size + 1 = kb at *;have hM2 : Blk (W1.alloc (.cells #[.slice A rs.length ca,.slice D ds.length cd,.string ⟨st.toArray⟩,.string ⟨gl.toArray⟩] 29)) W1.heap.size 29 #[.slice A rs.length ca,.slice D ds.length cd,.string ⟨st.toArray⟩,.string ⟨gl.toArray⟩]:=Blk.new _ _ _;obtain ⟨m0,m1,m2,m3⟩:=hmb.fourR;have zm:=hmb.lt;go_upto_region 2 with (fail);have hkb1 : kb < W1.heap.size:=hkb.lt;have hmz : w.heap.size ≤ W1.heap.size:=hb0.size;replace hmb:=hmb.alloc (.cells #[.slice A rs.length ca,.slice D ds.length cd,.string ⟨st.toArray⟩,.string ⟨gl.toArray⟩] 29);replace hkb:=hkb.alloc (.cells #[.slice A rs.length ca,.slice D ds.length cd,.string ⟨st.toArray⟩,.string ⟨gl.toArray⟩] 29);replace hb0:=hb0.alloc hb0.size (.cells #[.slice A rs.length ca,.slice D ds.length cd,.string ⟨st.toArray⟩,.string ⟨gl.toArray⟩] 29);clear m0 m1 m2 m3 zm;generalize W1.alloc (.cells #[.slice A rs.length ca,.slice D ds.length cd,.string ⟨st.toArray⟩,.string ⟨gl.toArray⟩] 29) = W2 at *;generalize W1.heap.size = sb at *;have hcl:=cloneD_any D cd lo ds W2 (HD.out _ hb0) hdl;obtain ⟨m0,m1,m2,m3⟩:=hmb.fourR;have zm:=hmb.lt;go_wp2_with fail;refine hcl.mono ?_;clear hcl m0 m1 m2 m3 zm;rintro e W3 ⟨B0,d0,rfl,hown,hb⟩;have hbase : sb < W2.heap.size:=hM2.lt;replace hmb:=hmb.below hb;replace hkb:=hkb.below hb;replace hM2:=hM2.below hb;have hb3:=below_up hb0 hb;have hde:=deleteX_any B0 d0 kb W2.heap.size ds key W3 hown hkb (by omega) hdl;have HNB : Hid (∀ j,(Value.slice B0 ds.length d0).ownBlock = some j → W2.heap.size ≤ j):=Lib.hid (fun j hj => (hown.lt j hj).1);have hz2:=hb0.size;clear hb hown;go_wp2_with fail;refine hde.mono ?_;clear hde;rintro e W4 ⟨rfl,hown,hg⟩;rw [shut_rel] at hown ⊢;have hM4 : Blk W4 sb 29 #[.slice A rs.length ca,.slice D ds.length cd,.string ⟨st.toArray⟩,.string ⟨gl.toArray⟩]:=(hg.block _ hM2.lt (fun e => by have:=HNB.out _ (by first | exact e | exact e.symm); omega)).trans hM2;have hm4 : Blk W4 w.heap.size 29 #[.slice A rs.length ca,.slice D ds.length cd,.string ⟨st.toArray⟩,.string ⟨gl.toArray⟩]:=(hg.block _ hmb.lt (fun e => by have:=HNB.out _ (by first | exact e | exact e.symm); omega)).trans hmb;have hb4:=hb3.grown hg hb3.size (fun k hk => Nat.le_trans hz2 (HNB.out k hk));clear hg hmb hM2 hkb
 have hM5 : Blk (W4.setCell ⟨sb,1,none⟩ (.slice B0 (shutL ds key).length d0)) sb 29 #[.slice A rs.length ca,.slice B0 (shutL ds key).length d0,.string ⟨st.toArray⟩,.string ⟨gl.toArray⟩]:=by simpa using hM4.poke 1 (.slice B0 (shutL ds key).length d0)
 have hm5:=hm4.past sb 1 (.slice B0 (shutL ds key).length d0) (by have:=hmz; omega);have hb5:=Below.setCell hb4 (p:=⟨sb,1,none⟩) (show w.heap.size ≤ sb from hmz) (.slice B0 (shutL ds key).length d0);have hrow5 : Row (W4.setCell ⟨sb,1,none⟩ (.slice B0 (shutL ds key).length d0)) 0 7 B0 (shutL ds key).length ((shutL ds key).flatMap encD):=row_down0 (Row.of_own (own_keepX hown (grown_poke W4 sb 1 (.slice B0 (shutL ds key).length d0)) (fun k j hk hj => by injection hk with hk; subst hk; have:=(hown.lt j hj).1; omega)));obtain ⟨k0,k1,k2,k3⟩:=hM4.fourR;have f1:=hM4.thaw 1;have zm:=hM4.lt;clear hown hb4 hm4;go_upto_region 3 with (fail);clear k0 k1 k2 k3 f1 zm hM4 hb3;generalize W4.setCell ⟨sb,1,none⟩ (.slice B0 (shutL ds key).length d0) = W5 at *;have hq:=HQ.out W5 hb5;obtain ⟨m0,m1,m2,m3⟩:=hm5.fourR;have zm:=hm5.lt;go_wp2_with fail;refine hq.mono ?_;clear hq m0 m1 m2 m3 zm;rintro e V ⟨BA,bn,bc,t0,is0,rfl,hf0,hb⟩;have HF0:=Lib.hid hf0;replace hM5:=hM5.below hb;replace hrow5:=hrow5.below hb;replace hb5:=below_up hb5 hb;clear hb hf0 hm5;go_upto_region 4 with (fail);have hp1 : Blk (V.alloc (.cells #[.slice BA bn bc,.int .i64 t0] 40)) V.heap.size 40 #[.slice BA bn bc,.int .i64 t0]:=Blk.new _ _ _;replace hM5 : Blk (V.alloc (.cells #[.slice BA bn bc,.int .i64 t0] 40)) sb _ _:=hM5.alloc _;replace hrow5:=hrow5.alloc (.cells #[.slice BA bn bc,.int .i64 t0] 40);replace hb5 : Below w.heap.size w (V.alloc (.cells #[.slice BA bn bc,.int .i64 t0] 40)):=hb5.alloc hb5.size _;generalize V.alloc (.cells #[.slice BA bn bc,.int .i64 t0] 40) = V3 at *;generalize V.heap.size = pb at *;have hq:=HQ2.out V3 B0 d0 0 hb5 hrow5;obtain ⟨m0,m1,m2,m3⟩:=hM5.fourR;have zm:=hM5.lt;go_wp2_with fail;refine hq.mono ?_;clear hq m0 m1 m2 m3 zm hrow5 hM5;rintro e V ⟨BB,bn2,bc2,t1,is1,rfl,hf1,hb⟩;have HF1:=Lib.hid hf1;replace hp1:=hp1.below hb;replace hb5:=below_up hb5 hb;clear hb hf1;go_upto_region 5 with (fail);have hp2 : Blk (V.alloc (.cells #[.slice BB bn2 bc2,.int .i64 t1] 40)) V.heap.size 40 #[.slice BB bn2 bc2,.int .i64 t1]:=Blk.new _ _ _;replace hp1 : Blk (V.alloc (.cells #[.slice BB bn2 bc2,.int .i64 t1] 40)) pb _ _:=hp1.alloc _;replace hb5 : Below w.heap.size w (V.alloc (.cells #[.slice BB bn2 bc2,.int .i64 t1] 40)):=hb5.alloc hb5.size _;generalize V.alloc (.cells #[.slice BB bn2 bc2,.int .i64 t1] 40) = V5 at *;generalize V.heap.size = qb at *;obtain ⟨p0,p1⟩:=hp1.w2;obtain ⟨q0,q1⟩:=hp2.w2;have zp:=hp1.lt;have zq:=hp2.lt
 have ws : IntKind.i64.wrap (t1 - t0) = t1 - t0:=by
  obtain ⟨_,h2,h3,h4⟩:=HF0.out;obtain ⟨_,g2,g3,g4⟩:=HF1.out
  refine IntWalk.i64_in _ ⟨?_,?_⟩ <;> (split at h2 <;> split at g2 <;> omega)
 have HE : Hid (Ending.returned (.tuple #[.int .i64 (t1 - t0),.bool (is0 && is1)]) = .returned (.tuple #[.int .i64 ((if fb < 0 then 0 else fb) - (if fa < 0 then 0 else fa)),.bool (!decide (fa < 0) && !decide (fb < 0))])):=Lib.hid (by
  obtain ⟨h1,h2,_⟩:=HF0.out;obtain ⟨g1,g2,_⟩:=HF1.out
  rw [h1,h2,g1,g2])
 clear HF0 HF1
 cases is0 <;>
 ·go_wp2_with fail
  rw [HPO.out];exact ⟨HE.out,hb5⟩
def slowE (rs : List RoomE) (ds : List DoorE) (st gl : List UInt8) (tr : List (List UInt8)) (key : List UInt8) : Int :=
 if tricksE rs ds st gl tr ≠ 0 then tricksE rs ds st gl tr else if key ∈ ds.map DoorE.key then 0 else 8
def SlwPost (a b : Int) (err : Int) (w : World) (e : Ending) (w' : World) : Prop :=
 ∃ (v : Int) (is : Bool),e = .returned (.tuple #[.int .i64 v,.bool is,.int .i64 err]) ∧ (err ≠ 0 → v = 0 ∧ is = false) ∧ (err = 0 → is = (!decide (a < 0) && !decide (b < 0)) ∧ v = if is then b - a else 0) ∧ Below w.heap.size w w'
set_option maxHeartbeats 8000000 in
set_option maxRecDepth 100000 in
theorem slower_any (lo ca cd lo2 c2 : Nat) (A : Option Addr) (rs : List RoomE) (D : Option Addr) (ds : List DoorE) (st gl : List UInt8) (TR : Option Addr) (tr : List (List UInt8)) (key : List UInt8) (w : World)
  (hA : MapW w lo A rs D ds) (hr : Row w lo2 1 TR tr.length (strs tr)) (hrl : tr.length ≤ 1000000) :
  Calls Tryz.prog 37 #[mapV A rs ca D ds cd st gl,.slice TR tr.length c2,.string ⟨key.toArray⟩] w (SlwPost (timeT rs ds st gl tr) (timeT rs (shutL ds key) st gl tr) (slowE rs ds st gl tr key) w):=by
 have hC : McC w ((w.alloc (.cells #[.slice A rs.length ca,.slice D ds.length cd,.string ⟨st.toArray⟩,.string ⟨gl.toArray⟩] 29)).alloc (.cells #[.string ⟨key.toArray⟩] 9)) w.heap.size lo A rs ca D ds cd st gl:=⟨(hA.alloc _).alloc _,(Blk.new _ _ _).alloc _,(by repeat (first | exact Below.refl _ _ | refine Below.alloc ?_ (by first | omega | (simp; omega) | simp) _ | refine below_drewN' ?_ _ | refine Below.drew ?_))⟩
 have hkb : Blk ((w.alloc (.cells #[.slice A rs.length ca,.slice D ds.length cd,.string ⟨st.toArray⟩,.string ⟨gl.toArray⟩] 29)).alloc (.cells #[.string ⟨key.toArray⟩] 9)) (w.heap.size + 1) 9 #[.string ⟨key.toArray⟩]:=Blk.at_ _ (by simp);have HRR:=Lib.hid hr
 obtain ⟨err,herr⟩ : ∃ err,err = tricksE rs ds st gl tr:=⟨_,rfl⟩
 have HLE : Hid (slowE rs ds st gl tr key = if err ≠ 0 then err else if key ∈ ds.map DoorE.key then 0 else 8):=Lib.hid (by unfold slowE; rw [herr])
 obtain ⟨le,hle⟩ : ∃ le,le = slowE rs ds st gl tr key:=⟨_,rfl⟩
 rw [← hle] at HLE ⊢;have HER:=Lib.hid herr
 obtain ⟨fa,hfa⟩ : ∃ fa,fa = timeT rs ds st gl tr:=⟨_,rfl⟩
 obtain ⟨fb,hfb⟩ : ∃ fb,fb = timeT rs (shutL ds key) st gl tr:=⟨_,rfl⟩
 rw [← hfa,← hfb];have HFA:=Lib.hid hfa;have HFB:=Lib.hid hfb
 obtain ⟨post',hpost⟩ : ∃ q,q = SlwPost fa fb le w:=⟨_,rfl⟩
 rw [← hpost];have HPO:=Lib.hid hpost;clear hA hr herr hle hpost hfa hfb;unfold mapV;simp only [encStr]
 go_enter Tryz.func37,Tryz.ntmps37
 go_wp2_with fail;generalize (w.alloc (.cells #[.slice A rs.length ca,.slice D ds.length cd,.string ⟨st.toArray⟩,.string ⟨gl.toArray⟩] 29)).alloc (.cells #[.string ⟨key.toArray⟩] 9) = W1 at *;generalize w.heap.size + 1 = kb at *;have hct:=checkTricks_any lo ca cd A rs D ds st gl lo2 c2 TR tr W1 hC.m (HRR.out.below hC.b) (by omega);unfold mapV at hct;simp only [encStr] at hct;rw [← HER.out] at hct;refine hct.mono ?_;rintro e w2 ⟨rfl,hb⟩;have hC:=hC.below hb;have hkb:=hkb.below hb;clear hct hb
 by_cases h0 : err = 0
 ·subst h0
  have HM : Hid (mapE rs ds st gl = 0):=Lib.hid (tricks_right HER.out.symm);have HR : Hid (Right rs ds st gl):=Lib.hid (right_of HM.out)
  have hdl : ds.length ≤ 1000000:=by have:=HR.out.dl; omega
  have hco:=contX_any D cd kb lo ds key w2 hC.m.doors hkb hdl;obtain ⟨a0,a1,a2,a3⟩:=hC.bl.fourR;have za:=hC.bl.lt;go_wp2_with fail;refine hco.mono ?_;clear hco a0 a1 a2 a3 za;rintro e w3 ⟨rfl,hb⟩;have hC:=hC.below hb;have hkb:=hkb.below hb;clear hb
  by_cases hin : key ∈ ds.map DoorE.key
  ·have hle0 : le = 0:=by rw [HLE.out,if_neg (by simp),if_pos hin]
   have HT1 : Hid (∀ W,Below w3.heap.size w3 W → Calls Tryz.prog 95 #[.pointer (some ⟨w.heap.size,0,none⟩),.slice TR tr.length c2,.string ⟨#[]⟩] W fun e w' => e = .returned (.int .i64 fa) ∧ (-1 ≤ fa ∧ fa ≤ 530841600000000) ∧ Below W.heap.size W w'):=Lib.hid (fun W hb => by
    have h1:=(time_any w.heap.size lo ca cd lo2 c2 A rs D ds st gl _ TR tr [] W (hC.below hb).m (hC.below hb).bl HR.out rfl (HRR.out.below (hC.below hb).b) (by omega)).mono fun _ _ h => (⟨h.1,h.2.2⟩ : _ ∧ _)
    have e : timeF rs ds (onceT (allT rs ds)) tr [] st gl = fa:=HFA.out.symm;rw [e] at h1
    exact h1)
   have HT2 : Hid (∀ W,Below w3.heap.size w3 W → Calls Tryz.prog 95 #[.pointer (some ⟨w.heap.size,0,none⟩),.slice TR tr.length c2,.string ⟨key.toArray⟩] W fun e w' => e = .returned (.int .i64 fb) ∧ (-1 ≤ fb ∧ fb ≤ 530841600000000) ∧ Below W.heap.size W w'):=Lib.hid (fun W hb => by
    have h1:=(time_any w.heap.size lo ca cd lo2 c2 A rs D ds st gl _ TR tr key W (hC.below hb).m (hC.below hb).bl HR.out rfl (HRR.out.below (hC.below hb).b) (by omega)).mono fun _ _ h => (⟨h.1,h.2.2⟩ : _ ∧ _)
    rw [timeS HM.out tr key,← HFB.out] at h1
    exact h1)
   have HKB : Hid (∀ W,Below w3.heap.size w3 W → W.cell? ⟨kb,0,none⟩ = some (.string ⟨key.toArray⟩)):=Lib.hid (fun W hb => (hkb.below hb).cell 0);have HCB:=Lib.hid hC.b;clear hC hkb;rw [decide_eq_true hin];go_upto_region 6 with (fail);have hbw : Below w3.heap.size w3 w3.drew:=(Below.refl _ _).drew;refine wp_region_held_drew (S:=(fun w' => w'.cell? ⟨kb,0,none⟩ = some (.string ⟨key.toArray⟩))) (by kernel_rfl) (HKB.out _ hbw) (fun hHeld => ?_);generalize w3.drew = wd at hbw hHeld ⊢;(refine QU 0 ?_; (try simp only [Act.put,Q3,Q4,Q5]));(refine QU 2 ?_; (try simp only [Act.put,Q3,Q4,Q5]));(refine QU 3 ?_; (try simp only [Act.put,Q3,Q4,Q5]));refine QR 1 fun K hK => ?_;go_simp;go_at_call 95;refine (HT1.out wd hbw).mono ?_;rintro e Y1 ⟨rfl,hbd1,hb⟩;replace hbw:=below_up hbw hb;clear hb;go_wp2_with fail;refine hK.out _ _ (HKB.out _ hbw) (fun hHeld => ?_);clear hK K;(try simp only [Act.put,Q3,Q4,Q5]);refine QR 4 fun K hK => ?_;go_simp;go_at_call 95;refine (HT2.out Y1 hbw).mono ?_;rintro e Y4 ⟨rfl,hbd4,hb⟩;replace hbw:=below_up hbw hb;clear hb;go_wp2_with fail;refine hK.out _ _ (HKB.out _ hbw) (fun hHeld => ?_);clear hK K;(try simp only [Act.put,Q3,Q4,Q5]);(refine QU 5 ?_; (try simp only [Act.put,Q3,Q4,Q5]));(refine QU 6 ?_; (try simp only [Act.put,Q3,Q4,Q5]));refine wpAnyH_done (by kernel_rfl) ?_ _;have hz:=below_up HCB.out hbw;clear hHeld
   by_cases c1 : fa < 0
   ·have d1 : decide (fa < 0) = true:=decide_eq_true c1
    have HV : Hid (SlwPost fa fb 0 w (.returned (.tuple #[.int .i64 0,.bool false,.int .i64 0])) Y4):=Lib.hid ⟨0,false,rfl,fun h => absurd rfl h,fun _ => ⟨by rw [d1]; rfl,rfl⟩,hz⟩;clear c1;go_wp2_with fail;rw [HPO.out,hle0];exact HV.out
   ·have d1 : decide (fa < 0) = false:=decide_eq_false c1
    by_cases c2 : fb < 0
    ·have d2 : decide (fb < 0) = true:=decide_eq_true c2
     have HV : Hid (SlwPost fa fb 0 w (.returned (.tuple #[.int .i64 0,.bool false,.int .i64 0])) Y4):=Lib.hid ⟨0,false,rfl,fun h => absurd rfl h,fun _ => ⟨by rw [d1,d2]; rfl,rfl⟩,hz⟩;clear c1 c2;go_wp2_with fail;rw [HPO.out,hle0];exact HV.out
    ·have d2 : decide (fb < 0) = false:=decide_eq_false c2
     have ws : IntKind.i64.wrap (fb - fa) = fb - fa:=IntWalk.i64_in _ ⟨by omega,by omega⟩;have HV : Hid (SlwPost fa fb 0 w (.returned (.tuple #[.int .i64 (fb - fa),.bool true,.int .i64 0])) Y4):=Lib.hid ⟨fb - fa,true,rfl,fun h => absurd rfl h,fun _ => ⟨by rw [d1,d2]; rfl,rfl⟩,hz⟩;clear c1 c2;go_wp2_with fail;rw [HPO.out,hle0];exact HV.out
  ·have hle8 : le = 8:=by rw [HLE.out,if_neg (by simp),if_neg hin]
   rw [decide_eq_false hin];have hcb:=hC.b;clear hin;go_wp2_with fail;rw [HPO.out,hle8];exact ⟨0,false,rfl,fun _ => ⟨rfl,rfl⟩,fun h => absurd h (by decide),hcb⟩
 ·have d0 : (err != 0) = true:=bne_iff_ne.2 h0
  have hle9 : le = err:=by rw [HLE.out,if_pos h0]
  have hcb:=hC.b;go_wp2_with fail;rw [HPO.out,hle9];exact ⟨0,false,rfl,fun _ => ⟨rfl,rfl⟩,fun h => absurd h h0,hcb⟩
end Go.Proofs.YtjggbpchmbdocaaGreatDoor
