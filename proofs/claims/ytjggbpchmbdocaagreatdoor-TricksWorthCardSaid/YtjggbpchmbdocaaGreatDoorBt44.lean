/- Texts of this seat, laid together: SpF. -/
import Derived.Deep.DeepCutAuto
import Derived.Deep.CutRange
import Derived.Test.YtjggbpchmbdocaaGreatDoorBt43
import Derived.Test.YtjggbpchmbdocaaGreatDoorBt28
/- The walk of the reference's spreadOut. -/
namespace Go.Proofs.YtjggbpchmbdocaaGreatDoor
set_option linter.unusedVariables false
set_option linter.unusedSimpArgs false
open Go.RowKit Go.Sort Go.Maps Go.WideMaps

set_option maxHeartbeats 16000000 in
set_option maxRecDepth 100000 in
theorem spreadOut_any (lo ca cd lo2 c2 lo3 rc lo4 pc : Nat) (A : Option Addr) (rs : List RoomE) (D : Option Addr) (ds : List DoorE) (st gl : List UInt8) (TR : Option Addr) (tr : List (List UInt8)) (R : Option Addr) (rooms : List (List UInt8)) (room0 : List UInt8) (PA : Option Addr) (th0 : List (List UInt8)) (T : List (List UInt8)) (fid : FuncId) (pre post : Array Value) (ef : StE → Bool) (w : World)
  (hA : MapW w lo A rs D ds) (hm : mapE rs ds st gl = 0) (hTd : onceT (allT rs ds) = T) (htr : Row w lo2 1 TR tr.length (strs tr)) (htl : tr.length ≤ 1000000) (hrr : Row w lo3 1 R rooms.length (strs rooms)) (hrl : rooms.length ≤ 5) (hp : Row w lo4 1 PA th0.length (strs th0)) (hpc : th0.length ≤ pc) (hro : room0 ∈ rs.map RoomE.key) (hth : ThOk T th0) (hef : EndsF w fid pre post ef rs T) :
  Calls Tryz.prog 78 #[.agg #[.slice A rs.length ca,.slice D ds.length cd,.string ⟨st.toArray⟩,.string ⟨gl.toArray⟩],.slice TR tr.length c2,.slice R rooms.length rc,.agg #[.string ⟨room0.toArray⟩,.slice PA th0.length pc],.func (.func fid) pre post] w (SoPost (nxX rs T ds tr [] (sfR rs rooms)) ef (tmX ds) (stY rs T room0 th0 (visN rooms room0 0)) rs ds T w):=by
 have HR : Hid (Right rs ds st gl):=Lib.hid (right_of hm);have HNM : Hid (NmOk rs T):=Lib.hid (NmOk.right hm hTd)
 have HKB : Hid (∀ x ∈ rs.map RoomE.key,x.length ≤ 1000000):=Lib.hid (fun x hx => by
  obtain ⟨r,hr,rfl⟩:=List.mem_map.1 hx;have:=(keyB_free ((map_keys hm).1 r hr)).2.1
  omega)
 have HTB : Hid (∀ th,ThOk T th → th.length ≤ 10 ∧ ∀ s ∈ th,s.length ≤ 1000000):=Lib.hid (fun th h => by
  have hT : T.Pairwise (· < ·):=by rw [← hTd]; exact (onceT_spec _).1
  refine ⟨Nat.le_trans (ThOk.len hT h) (by rw [← hTd]; exact (right_of hm).few),fun s hs => ?_⟩;have hsT:=h.sub s hs;rw [← hTd] at hsT;have:=(keyB_free ((map_keys hm).2 s (((onceT_spec _).2 s).1 hsT))).2.1
  omega)
 have HTD:=Lib.hid hTd;have HTP : Hid (T.Pairwise (· < ·)):=Lib.hid (by rw [← hTd]; exact (onceT_spec _).1);have HTO:=Lib.hid hth;have HRO:=Lib.hid hro;have hv5 : visN rooms room0 0 ≤ 5:=Nat.le_trans (visN_le (Nat.zero_le _)) hrl
 obtain ⟨v0,hv0⟩ : ∃ v0,v0 = visN rooms room0 0:=⟨_,rfl⟩
 have HV0:=Lib.hid hv0;rw [← hv0] at hv5 ⊢;have HS : Hid (∀ W,Below w.heap.size w W → MapW W lo A rs D ds ∧ Row W lo2 1 TR tr.length (strs tr) ∧ Row W lo3 1 R rooms.length (strs rooms) ∧ Row W lo4 1 PA th0.length (strs th0)):=Lib.hid (fun W h => ⟨hA.below h,htr.below h,hrr.below h,hp.below h⟩);have HEF:=Lib.hid hef;have hrl100:=HR.out.rl;have hdl500:=HR.out.dl;have HGS : Hid (GoodX rs T (stY rs T room0 th0 v0)):=Lib.hid (stY_good hro hth hv5);have HPS : Hid (ptX rs T (stY rs T room0 th0 v0) = (room0,th0)):=Lib.hid (ptX_stY HTP.out hro hth)
 obtain ⟨s0,hs0⟩ : ∃ s0,s0 = stY rs T room0 th0 v0:=⟨_,rfl⟩
 have HS0 : Hid (s0.s = v0 ∧ nameX rs T s0 = nameS room0 th0 v0):=Lib.hid (by
  refine ⟨by rw [hs0]; rfl,?_⟩;unfold nameX
  rw [hs0,HPS.out]; rfl)
 rw [← hs0] at HGS HPS ⊢;clear hs0
 obtain ⟨post',hpost⟩ : ∃ q,q = SoPost (nxX rs T ds tr [] (sfR rs rooms)) ef (tmX ds) s0 rs ds T w:=⟨_,rfl⟩
 rw [← hpost];have HPO:=Lib.hid hpost;clear hA hTd htr hrr hp hth hro hef hv0 hpost hm
 have hb0 : Below w.heap.size w ((w.alloc (.cells #[.slice A rs.length ca,.slice D ds.length cd,.string ⟨st.toArray⟩,.string ⟨gl.toArray⟩] 29)).alloc (.cells #[.string ⟨room0.toArray⟩,.slice PA th0.length pc] 35)):=(by repeat (first | exact Below.refl _ _ | refine Below.alloc ?_ (by first | omega | (simp; omega) | simp) _ | refine below_drewN' ?_ _ | refine Below.drew ?_))
 have hmb : Blk ((w.alloc (.cells #[.slice A rs.length ca,.slice D ds.length cd,.string ⟨st.toArray⟩,.string ⟨gl.toArray⟩] 29)).alloc (.cells #[.string ⟨room0.toArray⟩,.slice PA th0.length pc] 35)) w.heap.size 29 #[.slice A rs.length ca,.slice D ds.length cd,.string ⟨st.toArray⟩,.string ⟨gl.toArray⟩]:=(Blk.new _ _ _).alloc _;have hfb : Blk ((w.alloc (.cells #[.slice A rs.length ca,.slice D ds.length cd,.string ⟨st.toArray⟩,.string ⟨gl.toArray⟩] 29)).alloc (.cells #[.string ⟨room0.toArray⟩,.slice PA th0.length pc] 35)) (w.heap.size + 1) 35 #[.string ⟨room0.toArray⟩,.slice PA th0.length pc]:=Blk.at_ _ (by simp)
 go_enter Tryz.func78,Tryz.ntmps78
 go_upto_region 1 with (fail);generalize (w.alloc (.cells #[.slice A rs.length ca,.slice D ds.length cd,.string ⟨st.toArray⟩,.string ⟨gl.toArray⟩] 29)).alloc (.cells #[.string ⟨room0.toArray⟩,.slice PA th0.length pc] 35) = W1 at *;obtain ⟨f0,f1⟩:=hfb.w2;have zf:=hfb.lt;have hvs:=visit_any lo3 rc th0.length pc R PA rooms room0 0 W1 (HS.out _ hb0).2.2.1 (by omega) (Nat.zero_le _);rw [← HV0.out] at hvs;rw [show ((0 : Nat) : Int) = 0 from rfl] at hvs;go_wp2_with fail;refine hvs.mono ?_;clear hvs;rintro e W2 ⟨rfl,hb⟩;replace hmb:=hmb.below hb;replace hb0:=below_up hb0 hb;clear hb f0 f1 zf hfb;have hsb : Blk (W2.alloc (.cells #[.string ⟨room0.toArray⟩,.slice PA th0.length pc,.int .i64 (v0 : Int)] 124)) W2.heap.size 124 #[.string ⟨room0.toArray⟩,.slice PA th0.length pc,.int .i64 (v0 : Int)]:=Blk.new _ _ _;replace hmb:=hmb.alloc (.cells #[.string ⟨room0.toArray⟩,.slice PA th0.length pc,.int .i64 (v0 : Int)] 124);replace hb0:=hb0.alloc hb0.size (.cells #[.string ⟨room0.toArray⟩,.slice PA th0.length pc,.int .i64 (v0 : Int)] 124);go_upto_region 2 with (fail);generalize W2.alloc (.cells #[.string ⟨room0.toArray⟩,.slice PA th0.length pc,.int .i64 (v0 : Int)] 124) = Z at *;generalize W2.heap.size = sb at *
 go_cut [12] from 29 to 34 (fun u wx => ∃ (mb : Nat) (K : List (List UInt8)) (f : FndF),u = .map (some mb) ∧ SpS (nxX rs T ds tr [] (sfR rs rooms)) ef (tmX ds) s0 rs ds T wx mb K f (fun z => if z = s0 then some (0,[]) else none) ∧ w.heap.size ≤ mb ∧ Blk wx w.heap.size 29 #[.slice A rs.length ca,.slice D ds.length cd,.string ⟨st.toArray⟩,.string ⟨gl.toArray⟩] ∧ Below w.heap.size w wx)
 case first =>
  have hbz : Below Z.heap.size Z Z.drew:=below_drewN' (Below.refl _ _) 1;have HZ : Hid (∀ W,Below Z.heap.size Z W → Blk W w.heap.size 29 #[.slice A rs.length ca,.slice D ds.length cd,.string ⟨st.toArray⟩,.string ⟨gl.toArray⟩] ∧ Blk W sb 124 #[.string ⟨room0.toArray⟩,.slice PA th0.length pc,.int .i64 (v0 : Int)] ∧ Below w.heap.size w W):=Lib.hid (fun W h => ⟨hmb.below h,hsb.below h,below_up hb0 h⟩);have hwz : w.heap.size ≤ Z.heap.size:=hb0.size;clear hmb hsb hb0;go_wp2_with fail;refine wp_region_held_drew (S:=(fun w' => w'.cell? ⟨sb,0,none⟩ = some (.string ⟨room0.toArray⟩) ∧ w'.cell? ⟨sb,1,none⟩ = some (.slice PA th0.length pc) ∧ w'.cell? ⟨sb,2,none⟩ = some (.int .i64 (v0 : Int)))) (by kernel_rfl) ((HZ.out _ hbz).2.1.w3) (fun hHeld => ?_);generalize Z.drew = V at *;(refine QU 1 ?_; (try simp only [Act.put,Q3,Q4,Q5]));(refine QU 3 ?_; (try simp only [Act.put,Q3,Q4,Q5]));(refine QU 4 ?_; (try simp only [Act.put,Q3,Q4,Q5]));refine wpAnyH_ready (rs:=[0,2]) (by kernel_rfl) (by simp) ?_;refine AllReadyH.cons rfl (fun K hK => ?_) (AllReadyH.cons rfl (fun K hK => ?_) AllReadyH.nil)
  focus (
   have hmk : (Instr.makeMap 137 none).run Tryz.prog V = .ok (.map (some V.heap.size)) (V.alloc (.map #[] 0)):=by kernel_rfl
   go_simp;clear hmk;have hmp : MapF (V.alloc (.map #[] 0)) V.heap.size 0 [] (fun _ => none):=MapF.made V;have hmz : Z.heap.size ≤ V.heap.size:=hbz.size;replace hbz:=hbz.alloc hbz.size (.map #[] 0);generalize V.alloc (.map #[] 0) = V0 at *;generalize V.heap.size = mb at *;refine hK.out _ _ ((HZ.out _ hbz).2.1.w3) (fun hHeld => ?_);clear hK K;(try simp only [Act.put,Q3,Q4,Q5]);refine QR 2 fun K hK => ?_;go_simp;go_at_call 66;refine (name_any lo4 pc PA room0 th0 v0 V0 hv5 (HS.out _ (HZ.out _ hbz).2.2).2.2.2 (by have:=(HTB.out _ HTO.out).1; omega) hpc (HTB.out _ HTO.out).2 (HKB.out _ HRO.out)).mono ?_;rintro e V2 ⟨rfl,hb⟩;replace hmp:=hmp.below hb;replace hbz:=hbz.trans (hb.mono hbz.size);clear hb;go_wp2_with fail;refine hK.out _ _ ((HZ.out _ hbz).2.1.w3) (fun hHeld => ?_);clear hK K;(try simp only [Act.put,Q3,Q4,Q5])
   generalize V2 = U at *)
  rotate_left 1
  focus (
   go_simp;go_at_call 66;refine (name_any lo4 pc PA room0 th0 v0 V hv5 (HS.out _ (HZ.out _ hbz).2.2).2.2.2 (by have:=(HTB.out _ HTO.out).1; omega) hpc (HTB.out _ HTO.out).2 (HKB.out _ HRO.out)).mono ?_;rintro e V2 ⟨rfl,hb⟩
   skip
   replace hbz:=hbz.trans (hb.mono hbz.size);clear hb;go_wp2_with fail;refine hK.out _ _ ((HZ.out _ hbz).2.1.w3) (fun hHeld => ?_);clear hK K;(try simp only [Act.put,Q3,Q4,Q5]);refine QR 0 fun K hK => ?_
   have hmk : (Instr.makeMap 137 none).run Tryz.prog V2 = .ok (.map (some V2.heap.size)) (V2.alloc (.map #[] 0)):=by kernel_rfl
   go_simp;clear hmk;have hmp : MapF (V2.alloc (.map #[] 0)) V2.heap.size 0 [] (fun _ => none):=MapF.made V2;have hmz : Z.heap.size ≤ V2.heap.size:=hbz.size;replace hbz:=hbz.alloc hbz.size (.map #[] 0);generalize V2.alloc (.map #[] 0) = V0 at *;generalize V2.heap.size = mb at *;refine hK.out _ _ ((HZ.out _ hbz).2.1.w3) (fun hHeld => ?_);clear hK K;(try simp only [Act.put,Q3,Q4,Q5])
   generalize V0 = U at *)
  rotate_left 1
  all_goals (
   refine QR 5 fun K hK => ?_;rw [← HS0.out.2];refine step_insF (p:=⟨room0,PA,th0.length,pc,(v0 : Int),none,0,0,0⟩) rfl _ _ _ (.inl rfl) rfl hmp (by simp [maxLen]) (nameX rs T s0) (by have:=HNM.out.len s0 HGS.out; unfold maxLen; omega) rfl rfl ?_;intro U2 hmp2 hg2;replace hbz:=hbz.grown hg2 hbz.size (fun q hq => by injection hq with hq; omega);clear hmp hg2;refine hK.out _ _ ((HZ.out _ hbz).2.1.w3) (fun hHeld => ?_);clear hK K;(try simp only [Act.put,Q3,Q4,Q5]);(refine QU 6 ?_; (try simp only [Act.put,Q3,Q4,Q5]));(refine QU 7 ?_; (try simp only [Act.put,Q3,Q4,Q5]));refine wpAnyH_done (by kernel_rfl) ?_ _;go_wp2_with fail;go_meet;have hq:=HZ.out _ hbz
   have hkf : keyF [] (nameX rs T s0) = [nameX rs T s0]:=by unfold keyF; rw [if_neg (by simp)]; rfl
   refine ⟨mb,_,_,rfl,⟨hmp2,⟨fun x a hx => ?_,fun x a hx => ?_,fun key hk => ?_⟩,⟨fun x a hx => ?_,⟨(0,[]),if_pos rfl,leP_refl _⟩⟩,SimI.first s0⟩,by omega,hq.1,hq.2.2⟩
   ·by_cases e : x = s0
    ·rw [e]; exact HGS.out
    ·rw [if_neg e] at hx; cases hx
   ·by_cases e : x = s0
    ·subst e
     rw [if_pos rfl] at hx;injection hx with hx;subst hx;refine ⟨⟨room0,PA,th0.length,pc,(v0 : Int),none,0,0,0⟩,by unfold putF; rw [if_pos rfl],?_⟩;have hr:=(HS.out _ hq.2.2).2.2.2;rw [HPS.out];exact ⟨rfl,rfl,hpc,row_down0 hr,by rw [HS0.out.1],rfl,Row.none_ _ _ _ _,rfl⟩
    ·rw [if_neg e] at hx; cases hx
   ·refine ⟨s0,(0,[]),if_pos rfl,?_⟩
    unfold putF at hk
    by_cases e : key = nameX rs T s0
    ·exact e
    ·rw [if_neg e] at hk; cases hk
   ·by_cases e : x = s0
    ·rw [if_pos e] at hx
     injection hx with hx;subst hx;rw [e]; exact .nil
    ·rw [if_neg e] at hx; cases hx)
 case rest =>
  obtain ⟨mb,K,f,rfl,hS,hmz,hmb,hb0⟩:=hcut;generalize wc = Z at *;have HTM : Hid (∀ x p,p ∈ (nxX rs T ds tr [] (sfR rs rooms)) x → 1 ≤ tmX ds p.1 ∧ tmX ds p.1 ≤ 864000000):=Lib.hid (fun x p h => nxX_tm HR.out x p h);have HIX : Hid (∀ x p,p ∈ (nxX rs T ds tr [] (sfR rs rooms)) x → p.1 < ds.length):=Lib.hid (fun x p h => (nxX_mem h).1);have HNG : Hid (∀ x k y,GoodX rs T x → (k,y) ∈ (nxX rs T ds tr [] (sfR rs rooms)) x → GoodX rs T y):=Lib.hid (fun x k y hx h => nx_good HR.out HTD.out hrl hx h);have HNF : Hid (nS rs T ≤ 614400):=Lib.hid (nS_le HR.out HTD.out);have HZ : Hid (∀ W,Z.grownBy W (some mb) → Below w.heap.size w W):=Lib.hid (fun W h => hb0.grown h hb0.size (fun q hq => by injection hq with hq; omega));have HZM : Hid (∀ W,Z.grownBy W (some mb) → Blk W w.heap.size 29 #[.slice A rs.length ca,.slice D ds.length cd,.string ⟨st.toArray⟩,.string ⟨gl.toArray⟩]):=Lib.hid (fun W h => blk_mapped hmb hS.mp.kind h);obtain ⟨N,hN⟩:=best_few (tr:=tr) (ef:=ef) HR.out HTD.out hrl HGS.out;have HN:=Lib.hid hN;have hzz : w.heap.size ≤ Z.heap.size:=hb0.size;clear hN hmb hb0;go_wp2_with fail
  go_loopw [13] (fun v wr => ∃ n,SpL (nxX rs T ds tr [] (sfR rs rooms)) ef (tmX ds) s0 rs ds T N Z mb v wr n) (fun v wr => gm (SpL (nxX rs T ds tr [] (sfR rs rooms)) ef (tmX ds) s0 rs ds T N Z mb v) wr)
  case atStart => exact ⟨_,true,0,K,f,_,rfl,hS,World.grownBy.refl _ _,Lib.hid ⟨RdI.zero hS.sp,Nat.zero_le _,fun h => by cases h⟩,rfl⟩
  case round =>
   clear hS;obtain ⟨ag,rfl,hL⟩:=SpL.bool hrel;have hm:=gm_at hL;generalize hmu : gm (SpL (nxX rs T ds tr [] (sfR rs rooms)) ef (tmX ds) s0 rs ds T N Z mb (.bool ag)) wr = mu0 at hm;have HMU:=Lib.hid hmu;clear hL hmu hrel;obtain ⟨ag',r,K,f,M,he,hS,hg,HRd,hn⟩:=hm
   obtain rfl : ag = ag':=by injection he
   have HMN:=Lib.hid hn;clear hn he
   cases ag with
   | false =>
    go_wp2_with fail;rw [HPO.out];exact ⟨mb,K,f,M,rfl,hS,HRd.out.2.2 (by first | rfl | trivial),hmz,HZ.out _ hg⟩
   | true =>
    have hM:=hS.mp
    go_wp2_with (first
     | (at_range; refine wpList_rangeF rfl _ rfl rfl hM ?_; intro W5 left0 cnt0 hrg0 hl0 hg0 hs0)
     | fail)
    have hb5 : Below wr.heap.size wr W5:=(Below.refl _ _).grown hg0 (Nat.le_refl _) (fun q hq => by cases hq);have HL0 : Hid ((∀ x,x ∈ ([] : List (List UInt8)) ↔ (f x).isSome = true ∧ left0 x = false) ∧ ([] : List (List UInt8)).Nodup ∧ ([] : List (List UInt8)).length ≤ K.length ∧ ∀ x,left0 x = true → (f x).isSome = true):=Lib.hid ⟨fun x => ⟨(fun h => absurd h (by simp)),(fun h => by rw [hl0 x,h.1] at h; exact absurd h.2 (by simp))⟩,List.nodup_nil,Nat.zero_le _,fun x h => by rw [hl0 x] at h; exact h⟩;have HKM:=Lib.hid hM.keys;have hkf : K.length ≤ 614400:=Nat.le_trans hS.few HNF.out
    have hbi : wr.heap.size + 1 ≤ W5.heap.size:=by omega
    have hmi : mb < wr.heap.size:=hM.lt;generalize hVe : wr = V at hM hrg0 hg0 hs0 hb5 hbi hmi hS hg ⊢;have HVE:=Lib.hid hVe;clear hVe;have HSV:=Lib.hid hS;have HGV:=Lib.hid hg;clear hM hg0 hl0 hs0 hS hg
    go_loopw [14] (fun nm wq => ∃ (left : List UInt8 → Bool) (cnt : Nat) (AN : Option Addr) (cN : Nat) (l : List (List UInt8)),MapFR wq mb V.heap.size K.length f left cnt ∧ nm = .slice AN l.length cN ∧ wq.ownsRow (V.heap.size + 1) 9 1 (.slice AN l.length cN) l.length (strs l) ∧ Hid ((∀ x,x ∈ l ↔ (f x).isSome = true ∧ left x = false) ∧ l.Nodup ∧ l.length ≤ K.length ∧ ∀ x,left x = true → (f x).isSome = true) ∧ Below V.heap.size V wq ∧ V.heap.size + 1 ≤ wq.heap.size) (fun _ wq => wq.rangeLeft mb V.heap.size)
    case atStart => exact ⟨left0,cnt0,none,0,[],hrg0,rfl,World.ownsRow_nil _ _ _ _,HL0,hb5,hbi⟩
    case round =>
     clear hrg0 HL0 hb5 hbi;obtain ⟨left,cnt,AN,cN,l,hrg,rfl,hown,HL,hbv,hbi⟩:=hrel;have HLE:=Lib.hid hrg.left_eq;have hlk:=HL.out.2.2.1
     go_wp2_with (first
      | (at_next; refine wpList_nextF rfl _ rfl rfl hrg HL.out.2.2.2 ?_ ?_)
      | fail)
     ·intro hl0
      have HLF : Hid (∀ x,x ∈ l ↔ (f x).isSome = true):=Lib.hid (fun x => by rw [HL.out.1 x,hl0 x]; simp);have hrow:=row_down0 (Row.of_own hown);clear hl0 hrg hown HL HLE hbi
      have hlf : l.length ≤ 614400:=by omega
      go_wp2_with fail;refine (onceR_any AN cN 0 l wr hrow (by omega)).mono ?_;rintro e W8 ⟨A8,c8,rfl,ho8,hb8⟩;have HNS:=Lib.hid (names_ok HSV.out HLF.out);have hol : (onceT l).length ≤ 614400:=Nat.le_trans (onceT_le l) hlf;have hns:=row_down0 (Row.of_own ho8);have hbv8:=below_up hbv hb8;have hS8:=HSV.out.below hbv8;have hg8:=grown_bel HGV.out hbv8;have HRS : Hid (RdH (nxX rs T ds tr [] (sfR rs rooms)) ef (tmX ds) s0 M M (DnX rs T (onceT l) M 0) N r false):=Lib.hid (RdH.start hS8.sp (fun z h => by unfold DnX at h; rw [List.take_zero] at h; exact absurd h.2 (by simp)));clear ho8 hb8 hbv hrow HLF hlk hbv8 hlf;generalize onceT l = Ns at *;go_wp2_with fail
      go_loopw [13,49] (fun v i wq => ∃ (ag : Bool) (j : Nat) (K' : List (List UInt8)) (f' : FndF) (M' : FoundM),v = .bool ag ∧ i = .int .i64 (j : Int) ∧ j ≤ Ns.length ∧ SpS (nxX rs T ds tr [] (sfR rs rooms)) ef (tmX ds) s0 rs ds T wq mb K' f' M' ∧ Z.grownBy wq (some mb) ∧ Row wq 0 1 A8 Ns.length (strs Ns) ∧ Hid (RdH (nxX rs T ds tr [] (sfR rs rooms)) ef (tmX ds) s0 M M' (DnX rs T Ns M j) N r ag)) (fun _ i _ => Ns.length - (intOf i).toNat)
      case atStart => exact ⟨false,0,K,f,M,rfl,rfl,Nat.zero_le _,hS8,hg8,hns,HRS⟩
      case round =>
       clear hS8 hg8 hns HRS;obtain ⟨ag,j,K1,f1,M1,rfl,rfl,hj,hS,hg,hns,HRN⟩:=hrel
       by_cases hlt : j < Ns.length
       ·obtain ⟨nb,noff,rfl,hnb,hnc⟩:=strs_at hns hlt
        have y0:=hnc j hlt;simp only [encStr] at y0;obtain ⟨x,a0,hx0,hxn⟩:=HNS.out.1 _ (List.getElem_mem hlt);obtain ⟨a,hxa,hle⟩:=HRN.out.rd.le x a0 hx0;have hgx:=hS.fi.good x a hxa;obtain ⟨p,hfp,hpo⟩:=hS.fi.there x a hxa;obtain ⟨xr,xth,hxr,hxt,hxe,hxp,hxs⟩:=ptX_good HTP.out hgx;rw [hxp] at hpo;obtain ⟨pr,pta,ptn,ptc,pdo,pda,pdn,pdc,ptm⟩:=p;obtain ⟨e1,e2,e3,e4,e5,e6,e7,e8⟩:=hpo;simp only at e1 e2 e3 e4 e5 e6 e7 e8;replace e1:=e1.symm;subst e1 e2 e5 e6 e8;have HXN:=Lib.hid hxn;have HXA:=Lib.hid hxa;have HX0:=Lib.hid hx0;have HXR:=Lib.hid hxr;have HXT:=Lib.hid hxt;have HXE:=Lib.hid hxe;have HXP:=Lib.hid hxp;have HFP:=Lib.hid hfp;have HGX:=Lib.hid hgx;have HTK : Hid (Ns.take (j + 1) = Ns.take j ++ [Ns[j]]):=Lib.hid (List.take_succ_eq_append_getElem hlt);have hM:=hS.mp
        have hnl : Ns[j].length ≤ 1000:=by rw [hxn]; exact HNM.out.len x hgx
        clear hnc hx0 hxa hle hxr hxt hxe hxp hfp hgx hxn;generalize Ns[j] = nj at *
        go_upto_region 15 with (first
         | (at_lookup; refine wpList_lookF rfl _ _ rfl rfl hM nj (by unfold maxLen; omega) rfl ⟨xr,pta,xth.length,ptc,x.s,pda,a.2.length,pdc,a.1⟩ (by rw [HXN.out]; exact HFP.out) ?_)
         | fail)
        have hxb : Blk (wr.alloc (.cells #[.string ⟨xr.toArray⟩,.slice pta xth.length ptc,.int .i64 (x.s : Int),.slice pda a.2.length pdc,.int .i64 a.1] 147)) wr.heap.size 147 #[.string ⟨xr.toArray⟩,.slice pta xth.length ptc,.int .i64 (x.s : Int),.slice pda a.2.length pdc,.int .i64 a.1]:=Blk.new _ _ _;replace hS:=hS.alloc (.cells #[.string ⟨xr.toArray⟩,.slice pta xth.length ptc,.int .i64 (x.s : Int),.slice pda a.2.length pdc,.int .i64 a.1] 147);replace hg:=grown_alloc hg (.cells #[.string ⟨xr.toArray⟩,.slice pta xth.length ptc,.int .i64 (x.s : Int),.slice pda a.2.length pdc,.int .i64 a.1] 147);replace hns:=hns.alloc (.cells #[.string ⟨xr.toArray⟩,.slice pta xth.length ptc,.int .i64 (x.s : Int),.slice pda a.2.length pdc,.int .i64 a.1] 147);replace e4:=e4.alloc (.cells #[.string ⟨xr.toArray⟩,.slice pta xth.length ptc,.int .i64 (x.s : Int),.slice pda a.2.length pdc,.int .i64 a.1] 147);replace e7:=e7.alloc (.cells #[.string ⟨xr.toArray⟩,.slice pta xth.length ptc,.int .i64 (x.s : Int),.slice pda a.2.length pdc,.int .i64 a.1] 147);clear hM y0 hnb hnl;generalize wr.alloc (.cells #[.string ⟨xr.toArray⟩,.slice pta xth.length ptc,.int .i64 (x.s : Int),.slice pda a.2.length pdc,.int .i64 a.1] 147) = W10 at *;generalize wr.heap.size = xb at *;have hen:=HEF.out.2 W10 x pta ptc (HZ.out _ hg) HGX.out (by rw [HXP.out]; exact e4);rw [HXP.out] at hen;obtain ⟨x0,x1,x2,x3,x4⟩:=hxb.w5;have zx:=hxb.lt;have hcf:=HEF.out.1;go_wp2_with fail;clear hcf;refine hen.mono ?_;clear hen;rintro e W11 ⟨rfl,hb⟩;replace hS:=hS.below hb;replace hg:=grown_bel hg hb;replace hns:=hns.below hb;replace e4:=e4.below hb;replace e7:=e7.below hb;replace hxb:=hxb.below hb;clear hb x0 x1 x2 x3 x4 zx
        obtain ⟨ee,hee⟩ : ∃ ee,ee = ef x:=⟨_,rfl⟩
        rw [← hee];have HEE:=Lib.hid hee;clear hee
        cases ee with
        | true =>
         have HR2 : Hid (RdH (nxX rs T ds tr [] (sfR rs rooms)) ef (tmX ds) s0 M M1 (DnX rs T Ns M (j + 1)) N r ag):=Lib.hid ⟨HRN.out.rd.ends (x:=x) HEE.out.symm (fun z hz => by
          unfold DnX at hz ⊢;rw [HTK.out,List.mem_append,List.mem_singleton] at hz;rcases hz.2 with h | h
          ·exact .inl ⟨hz.1,h⟩
          ·refine .inr ?_
           obtain ⟨b,hb⟩:=Option.isSome_iff_exists.1 hz.1
           exact HNM.out.inj z x (HSV.out.fi.good z b hb) HGX.out (h.trans HXN.out)),HRN.out.same,HRN.out.still⟩
         go_wp2_with fail;go_roundw
         case rel => exact ⟨ag,j + 1,K1,f1,M1,rfl,by go_num,by omega,hS,hg,hns,HR2⟩
         case measure => simp [intOf]; omega
        | false =>
         have HW : Hid (∀ W,W11.grownBy W (some mb) → Row W 0 1 (some ⟨nb,noff,none⟩) Ns.length (strs Ns) ∧ Row W 0 1 pta xth.length (strs xth) ∧ Row W 0 1 pda a.2.length (strs (a.2.map (keyX ds))) ∧ Blk W xb 147 #[.string ⟨xr.toArray⟩,.slice pta xth.length ptc,.int .i64 (x.s : Int),.slice pda a.2.length pdc,.int .i64 a.1]):=Lib.hid (fun W h => ⟨hns.mapped (by decide) hS.mp.kind h,e4.mapped (by decide) hS.mp.kind h,e7.mapped (by decide) hS.mp.kind h,blk_mapped hxb hS.mp.kind h⟩);have hsim:=hS.si x a HXA.out;have HRD : Hid (DrH (nxX rs T ds tr [] (sfR rs rooms)) ef (tmX ds) s0 M M1 (DnX rs T Ns M j) x a 0 N r ag):=Lib.hid ⟨HRN.out.rd.begin HXA.out ⟨a0,HX0.out⟩,hsim,HRN.out.same,HRN.out.still⟩;have hal : a.2.length ≤ 614400:=Nat.le_trans (hS.short hsim) HNF.out
         have hat0 : (0 : Int) ≤ a.1:=by
          have:=(HRD.out.dr.way).bnd (fun x p h => (HTM.out x p h).1);omega
         have hat1 : a.1 ≤ 530841600000000:=by
          have:=hsim.time (fun x p h => (HTM.out x p h).2);omega
         have HAD : Hid (∀ k ∈ a.2,k < ds.length):=Lib.hid (HRD.out.dr.way.door HIX.out);have HXS : Hid (x = stY rs T xr xth x.s):=HXE;have hgr : W11.grownBy W11 (some mb):=World.grownBy.refl _ _;obtain ⟨m0,m1,m2,m3⟩:=(HZM.out _ hg).fourR;have zm:=(HZM.out _ hg).lt;clear hsim hns e4 e7 hxb HRN;go_wp2_with fail;clear m0 m1 m2 m3 zm
         go_loopw [13,63] (fun v i wu => ∃ (ag : Bool) (k : Nat) (K2 : List (List UInt8)) (f2 : FndF) (M2 : FoundM),v = .bool ag ∧ i = .int .i64 (k : Int) ∧ k ≤ ds.length ∧ SpS (nxX rs T ds tr [] (sfR rs rooms)) ef (tmX ds) s0 rs ds T wu mb K2 f2 M2 ∧ Z.grownBy wu (some mb) ∧ W11.grownBy wu (some mb) ∧ Hid (DrH (nxX rs T ds tr [] (sfR rs rooms)) ef (tmX ds) s0 M M2 (DnX rs T Ns M j) x a k N r ag)) (fun _ i _ => ds.length - (intOf i).toNat)
         case atStart => exact ⟨ag,0,K1,f1,M1,rfl,rfl,Nat.zero_le _,hS,hg,hgr,HRD⟩
         case round =>
          clear hS hg hgr HRD HXA;obtain ⟨ag2,k,K2,f2,M2,rfl,rfl,hk,hS,hg,hgr,HRD⟩:=hrel
          by_cases hkd : k < ds.length
          ·obtain ⟨db,doff,rfl,hdb,hdc⟩:=(HS.out _ (HZ.out _ hg)).1.door (by omega)
           obtain ⟨q0,q1,q2,q3,q4,q5,q6⟩:=hdc k hkd;have HDM : Hid (ds[k] ∈ ds):=Lib.hid (List.getElem_mem hkd);have HDX : Hid (keyX ds k = ds[k].key ∧ tmX ds k = ds[k].time):=Lib.hid (by unfold keyX tmX; rw [getD_door hkd]; exact ⟨rfl,rfl⟩)
           have HNI : Hid (∀ y,(k,y) ∈ (nxX rs T ds tr [] (sfR rs rooms)) x ↔ goE tr xr xth ds[k] = 0 ∧ y = sfR rs rooms (stY rs T ds[k].dst (thru rs xth ds[k]) x.s)):=Lib.hid (fun y => by
            have:=nxR_iff (tr:=tr) (sf:=sfR rs rooms) (st:=st) (gl:=gl) HR.out HTD.out HXR.out (th:=xth) (s:=x.s) (k:=k) (y:=y);rw [← HXS.out] at this;rw [this]
            exact ⟨fun ⟨_,h1,h2⟩ => ⟨h1,h2⟩,fun ⟨h1,h2⟩ => ⟨hkd,h1,h2⟩⟩)
           simp only [encStr] at q0 q1 q2 q3 q4 q5 q6;clear hdc;generalize ds[k] = d at *;go_upto_region 19 with (fail);clear q0 q1 q2 q3 q4 q5 q6 hdb;have hdx : Blk (wr.alloc (.cells #[.string ⟨d.key.toArray⟩,.string ⟨d.src.toArray⟩,.string ⟨d.dst.toArray⟩,.int .i64 d.time,.slice d.N d.needs.length d.nc,.slice d.T d.takes.length d.tc,.string ⟨d.trick.toArray⟩] 120)) wr.heap.size 120 #[.string ⟨d.key.toArray⟩,.string ⟨d.src.toArray⟩,.string ⟨d.dst.toArray⟩,.int .i64 d.time,.slice d.N d.needs.length d.nc,.slice d.T d.takes.length d.tc,.string ⟨d.trick.toArray⟩]:=Blk.new _ _ _;have hbr : Below wr.heap.size wr (wr.alloc (.cells #[.string ⟨d.key.toArray⟩,.string ⟨d.src.toArray⟩,.string ⟨d.dst.toArray⟩,.int .i64 d.time,.slice d.N d.needs.length d.nc,.slice d.T d.takes.length d.tc,.string ⟨d.trick.toArray⟩] 120)):=(Below.refl _ _).alloc (Nat.le_refl _) _;replace hS:=hS.below hbr;replace hg:=grown_bel hg hbr;replace hgr:=grown_bel hgr hbr;clear hbr;generalize wr.alloc (.cells #[.string ⟨d.key.toArray⟩,.string ⟨d.src.toArray⟩,.string ⟨d.dst.toArray⟩,.int .i64 d.time,.slice d.N d.needs.length d.nc,.slice d.T d.takes.length d.tc,.string ⟨d.trick.toArray⟩] 120) = W12 at *;generalize wr.heap.size = dx at *;have hmw:=(HS.out _ (HZ.out _ hg)).1;have hgo:=rdoorFault_any lo2 0 lo c2 ptc TR pta tr xth xr d W12 (HS.out _ (HZ.out _ hg)).2.1 (by omega) (HW.out _ hgr).2.1 (by have:=(HTB.out _ HXT.out).1; omega) (hmw.needs d HDM.out).1 (by have:=(hmw.s.dn d HDM.out).1; omega);obtain ⟨x0,x1,x2,x3,x4⟩:=(HW.out _ hgr).2.2.2.w5;obtain ⟨d0,d1,d2,d3,d4,d5,d6⟩:=hdx.w7;have zx:=(HW.out _ hgr).2.2.2.lt;have zd:=hdx.lt
           obtain ⟨ge,hge⟩ : ∃ ge,ge = goE tr xr xth d:=⟨_,rfl⟩
           rw [← hge] at hgo;have HGE:=Lib.hid hge;clear hge hmw;go_wp2_with fail;refine hgo.mono ?_;clear hgo;rintro e W13 ⟨rfl,hb⟩;replace hS:=hS.below hb;replace hg:=grown_bel hg hb;replace hgr:=grown_bel hgr hb;replace hdx:=hdx.below hb;clear hb x0 x1 x2 x3 x4 d0 d1 d2 d3 d4 d5 d6 zx zd
           by_cases hg0 : ge = 0
           ·have c0 : (ge != 0) = false:=by rw [hg0]; rfl
            have HGZ : Hid (goE tr xr xth d = 0):=Lib.hid (by rw [← HGE.out,hg0]);clear hg0;have hdst:=HR.out.dst d HDM.out
            have HYO0 : ThOk T (thru rs xth d):=by
             have:=thru_ok (rs:=rs) (ds:=ds) d (by rw [HTD.out]; exact HXT.out)
             rwa [HTD.out] at this
            have hys5 : visN rooms d.dst x.s ≤ 5:=by have:=visN_max rooms d.dst x.s; omega
            obtain ⟨yth,hyth⟩ : ∃ yth,yth = thru rs xth d:=⟨_,rfl⟩
            obtain ⟨ys,hys⟩ : ∃ ys,ys = visN rooms d.dst x.s:=⟨_,rfl⟩
            have HYT:=Lib.hid hyth;have HYS:=Lib.hid hys;rw [← hyth] at HYO0;rw [← hys] at hys5
            obtain ⟨y,HY⟩ : ∃ y,Hid ((k,y) ∈ (nxX rs T ds tr [] (sfR rs rooms)) x ∧ (∀ z,(k,z) ∈ (nxX rs T ds tr [] (sfR rs rooms)) x → z = y) ∧ GoodX rs T y ∧ ptX rs T y = (d.dst,yth) ∧ y.s = ys ∧ nameX rs T y = nameS d.dst yth ys):=by
             have hsf : sfR rs rooms (stY rs T d.dst (thru rs xth d) x.s) = stY rs T d.dst yth ys:=by rw [sfR_st hdst,← hyth,← hys]
             have hpy : ptX rs T (stY rs T d.dst yth ys) = (d.dst,yth):=ptX_stY HTP.out hdst HYO0;refine ⟨stY rs T d.dst yth ys,Lib.hid ⟨(HNI.out _).2 ⟨HGZ.out,hsf.symm⟩,fun z hz => ((HNI.out z).1 hz).2.trans hsf,stY_good hdst HYO0 hys5,hpy,rfl,?_⟩⟩;unfold nameX;rw [hpy]; rfl
            have HYO:=Lib.hid HYO0;have hyl:=(HTB.out _ HYO0).1;have HDS:=Lib.hid hdst;clear hyth hys HYO0 hdst HNI HGE
            have HB : Hid (∀ W,Below W13.heap.size W13 W → Blk W w.heap.size 29 #[.slice A rs.length ca,.slice (some ⟨db,doff,none⟩) ds.length cd,.string ⟨st.toArray⟩,.string ⟨gl.toArray⟩] ∧ Blk W xb 147 #[.string ⟨xr.toArray⟩,.slice pta xth.length ptc,.int .i64 (x.s : Int),.slice pda a.2.length pdc,.int .i64 a.1] ∧ Blk W dx 120 #[.string ⟨d.key.toArray⟩,.string ⟨d.src.toArray⟩,.string ⟨d.dst.toArray⟩,.int .i64 d.time,.slice d.N d.needs.length d.nc,.slice d.T d.takes.length d.tc,.string ⟨d.trick.toArray⟩] ∧ MapW W lo A rs (some ⟨db,doff,none⟩) ds ∧ Row W lo3 1 R rooms.length (strs rooms) ∧ Row W 0 1 pta xth.length (strs xth) ∧ Row W 0 1 pda a.2.length (strs (a.2.map (keyX ds)))):=Lib.hid (fun W h => by
             have h1:=HS.out _ (below_up (HZ.out _ hg) h);have h2:=HW.out _ hgr
             exact ⟨(HZM.out _ hg).below h,h2.2.2.2.below h,hdx.below h,h1.1,h1.2.2.1,h2.2.1.below h,h2.2.2.1.below h⟩)
            have HS13:=Lib.hid hS;have HG13:=Lib.hid hg;have HR13:=Lib.hid hgr;clear hS hg hgr hdx;go_upto_region 20 with (fail)
            go_cut [21] from 74 to 85 (fun u wx => ∃ (yb : Nat) (YA : Option Addr) (yc : Nat),u = .pointer (some ⟨yb,0,none⟩) ∧ Blk wx yb 124 #[.string ⟨d.dst.toArray⟩,.slice YA yth.length yc,.int .i64 (ys : Int)] ∧ Row wx 0 1 YA yth.length (strs yth) ∧ yth.length ≤ yc ∧ Below W13.heap.size W13 wx)
            case first =>
             have hbz : Below W13.heap.size W13 W13.drew:=below_drewN' (Below.refl _ _) 1;go_wp2_with fail;refine wp_region_held_drew (S:=(fun w' => (w'.cell? ⟨w.heap.size,0,none⟩ = some (.slice A rs.length ca) ∧ w'.cell? ⟨w.heap.size,1,none⟩ = some (.slice (some ⟨db,doff,none⟩) ds.length cd) ∧ w'.cell? ⟨w.heap.size,2,none⟩ = some (.string ⟨st.toArray⟩) ∧ w'.cell? ⟨w.heap.size,3,none⟩ = some (.string ⟨gl.toArray⟩)) ∧ (w'.cell? ⟨xb,0,none⟩ = some (.string ⟨xr.toArray⟩) ∧ w'.cell? ⟨xb,1,none⟩ = some (.slice pta xth.length ptc) ∧ w'.cell? ⟨xb,2,none⟩ = some (.int .i64 (x.s : Int)) ∧ w'.cell? ⟨xb,3,none⟩ = some (.slice pda a.2.length pdc) ∧ w'.cell? ⟨xb,4,none⟩ = some (.int .i64 a.1)) ∧ (w'.cell? ⟨dx,0,none⟩ = some (.string ⟨d.key.toArray⟩) ∧ w'.cell? ⟨dx,1,none⟩ = some (.string ⟨d.src.toArray⟩) ∧ w'.cell? ⟨dx,2,none⟩ = some (.string ⟨d.dst.toArray⟩) ∧ w'.cell? ⟨dx,3,none⟩ = some (.int .i64 d.time) ∧ w'.cell? ⟨dx,4,none⟩ = some (.slice d.N d.needs.length d.nc) ∧ w'.cell? ⟨dx,5,none⟩ = some (.slice d.T d.takes.length d.tc) ∧ w'.cell? ⟨dx,6,none⟩ = some (.string ⟨d.trick.toArray⟩)))) (by kernel_rfl) (⟨(HB.out _ hbz).1.fourR,(HB.out _ hbz).2.1.w5,(HB.out _ hbz).2.2.1.w7⟩) (fun hHeld => ?_);generalize W13.drew = X at *;(refine QU 0 ?_; (try simp only [Act.put,Q3,Q4,Q5]));(refine QU 1 ?_; (try simp only [Act.put,Q3,Q4,Q5]));(refine QU 2 ?_; (try simp only [Act.put,Q3,Q4,Q5]));(refine QU 3 ?_; (try simp only [Act.put,Q3,Q4,Q5]));(refine QU 4 ?_; (try simp only [Act.put,Q3,Q4,Q5]));(refine QU 5 ?_; (try simp only [Act.put,Q3,Q4,Q5]));(refine QU 7 ?_; (try simp only [Act.put,Q3,Q4,Q5]));(refine QU 8 ?_; (try simp only [Act.put,Q3,Q4,Q5]));(refine QU 9 ?_; (try simp only [Act.put,Q3,Q4,Q5]));refine wpAnyH_ready (rs:=[6,12]) (by kernel_rfl) (by simp) ?_;refine AllReadyH.cons rfl (fun K hK => ?_) (AllReadyH.cons rfl (fun K hK => ?_) AllReadyH.nil)
             focus (
              go_simp;go_at_call 68;have hth:=throughC_any lo ca cd 0 ptc A rs (some ⟨db,doff,none⟩) ds st gl pta xth xr d X (HB.out _ hbz).2.2.2.1 HR.out.rup HDS.out (HB.out _ hbz).2.2.2.2.2.1 (by have:=(HTB.out _ HXT.out).1; omega) ((HB.out _ hbz).2.2.2.1.takes d HDM.out).1 (by have:=((HB.out _ hbz).2.2.2.1.s.dx d HDM.out).1; omega);rw [← HYT.out] at hth;refine hth.mono ?_;clear hth;rintro e X6 ⟨YA,yc,rfl,hyr,hyc,hb⟩
              skip
              replace hyr:=row_down0 hyr
              skip
              replace hbz:=below_up hbz hb;clear hb;go_wp2_with fail;refine hK.out _ _ (⟨(HB.out _ hbz).1.fourR,(HB.out _ hbz).2.1.w5,(HB.out _ hbz).2.2.1.w7⟩) (fun hHeld => ?_);clear hK K;(try simp only [Act.put,Q3,Q4,Q5]);(refine QU 10 ?_; (try simp only [Act.put,Q3,Q4,Q5]));refine wpAnyH_ready (rs:=[11,12]) (by kernel_rfl) (by simp) ?_;refine AllReadyH.cons rfl (fun K hK => ?_) (AllReadyH.cons rfl (fun K hK => ?_) AllReadyH.nil)
              focus (
               go_simp;go_at_call 140;have hvs:=visit_any lo3 rc yth.length yc R YA rooms d.dst x.s X6 (HB.out _ hbz).2.2.2.2.1 (by omega) (by omega);rw [← HYS.out] at hvs;refine hvs.mono ?_;clear hvs;rintro e X11 ⟨rfl,hb⟩;replace hyr:=hyr.below hb
               skip
               replace hbz:=below_up hbz hb;clear hb;go_wp2_with fail;refine hK.out _ _ (⟨(HB.out _ hbz).1.fourR,(HB.out _ hbz).2.1.w5,(HB.out _ hbz).2.2.1.w7⟩) (fun hHeld => ?_);clear hK K;(try simp only [Act.put,Q3,Q4,Q5]);refine QR 12 fun K hK => ?_;go_simp;have hsb : Blk (X11.alloc (.cells #[.string ⟨#[]⟩,.slice none 0 0,.int .i64 0] 124)) X11.heap.size 124 #[.string ⟨#[]⟩,.slice none 0 0,.int .i64 0]:=Blk.new _ _ _;have hbs : W13.heap.size ≤ X11.heap.size:=hbz.size;have hyn:=hyr.newer (Nat.le_refl X11.heap.size);replace hyr:=hyr.alloc (.cells #[.string ⟨#[]⟩,.slice none 0 0,.int .i64 0] 124);replace hbz:=hbz.alloc hbz.size (.cells #[.string ⟨#[]⟩,.slice none 0 0,.int .i64 0] 124);generalize X11.alloc (.cells #[.string ⟨#[]⟩,.slice none 0 0,.int .i64 0] 124) = X12 at *;generalize X11.heap.size = yb at *;refine hK.out _ _ (⟨(HB.out _ hbz).1.fourR,(HB.out _ hbz).2.1.w5,(HB.out _ hbz).2.2.1.w7⟩) (fun hHeld => ?_);clear hK K;(try simp only [Act.put,Q3,Q4,Q5])
               generalize X12 = U at *)
              rotate_left 1
              focus (
               go_simp;have hsb : Blk (X6.alloc (.cells #[.string ⟨#[]⟩,.slice none 0 0,.int .i64 0] 124)) X6.heap.size 124 #[.string ⟨#[]⟩,.slice none 0 0,.int .i64 0]:=Blk.new _ _ _;have hbs : W13.heap.size ≤ X6.heap.size:=hbz.size;have hyn:=hyr.newer (Nat.le_refl X6.heap.size);replace hyr:=hyr.alloc (.cells #[.string ⟨#[]⟩,.slice none 0 0,.int .i64 0] 124);replace hbz:=hbz.alloc hbz.size (.cells #[.string ⟨#[]⟩,.slice none 0 0,.int .i64 0] 124);generalize X6.alloc (.cells #[.string ⟨#[]⟩,.slice none 0 0,.int .i64 0] 124) = X12 at *;generalize X6.heap.size = yb at *;refine hK.out _ _ (⟨(HB.out _ hbz).1.fourR,(HB.out _ hbz).2.1.w5,(HB.out _ hbz).2.2.1.w7⟩) (fun hHeld => ?_);clear hK K;(try simp only [Act.put,Q3,Q4,Q5]);refine QR 11 fun K hK => ?_;go_simp;go_at_call 140;have hvs:=visit_any lo3 rc yth.length yc R YA rooms d.dst x.s X12 (HB.out _ hbz).2.2.2.2.1 (by omega) (by omega);rw [← HYS.out] at hvs;refine hvs.mono ?_;clear hvs;rintro e X11 ⟨rfl,hb⟩;replace hyr:=hyr.below hb;replace hsb:=hsb.below hb;replace hbz:=below_up hbz hb;clear hb;go_wp2_with fail;refine hK.out _ _ (⟨(HB.out _ hbz).1.fourR,(HB.out _ hbz).2.1.w5,(HB.out _ hbz).2.2.1.w7⟩) (fun hHeld => ?_);clear hK K;(try simp only [Act.put,Q3,Q4,Q5])
               generalize X11 = U at *)
              rotate_left 1)
             rotate_left 2
             focus (
              go_simp;have hsb : Blk (X.alloc (.cells #[.string ⟨#[]⟩,.slice none 0 0,.int .i64 0] 124)) X.heap.size 124 #[.string ⟨#[]⟩,.slice none 0 0,.int .i64 0]:=Blk.new _ _ _;have hbs : W13.heap.size ≤ X.heap.size:=hbz.size
              skip
              replace hbz:=hbz.alloc hbz.size (.cells #[.string ⟨#[]⟩,.slice none 0 0,.int .i64 0] 124);generalize X.alloc (.cells #[.string ⟨#[]⟩,.slice none 0 0,.int .i64 0] 124) = X12 at *;generalize X.heap.size = yb at *;refine hK.out _ _ (⟨(HB.out _ hbz).1.fourR,(HB.out _ hbz).2.1.w5,(HB.out _ hbz).2.2.1.w7⟩) (fun hHeld => ?_);clear hK K;(try simp only [Act.put,Q3,Q4,Q5]);refine QR 6 fun K hK => ?_;go_simp;go_at_call 68;have hth:=throughC_any lo ca cd 0 ptc A rs (some ⟨db,doff,none⟩) ds st gl pta xth xr d X12 (HB.out _ hbz).2.2.2.1 HR.out.rup HDS.out (HB.out _ hbz).2.2.2.2.2.1 (by have:=(HTB.out _ HXT.out).1; omega) ((HB.out _ hbz).2.2.2.1.takes d HDM.out).1 (by have:=((HB.out _ hbz).2.2.2.1.s.dx d HDM.out).1; omega);rw [← HYT.out] at hth;refine hth.mono ?_;clear hth;rintro e X6 ⟨YA,yc,rfl,hyr,hyc,hb⟩;have hyn:=hyr.elder hsb.lt;replace hyr:=row_down0 hyr;replace hsb:=hsb.below hb;replace hbz:=below_up hbz hb;clear hb;go_wp2_with fail;refine hK.out _ _ (⟨(HB.out _ hbz).1.fourR,(HB.out _ hbz).2.1.w5,(HB.out _ hbz).2.2.1.w7⟩) (fun hHeld => ?_);clear hK K;(try simp only [Act.put,Q3,Q4,Q5]);(refine QU 10 ?_; (try simp only [Act.put,Q3,Q4,Q5]));refine QR 11 fun K hK => ?_;go_simp;go_at_call 140;have hvs:=visit_any lo3 rc yth.length yc R YA rooms d.dst x.s X6 (HB.out _ hbz).2.2.2.2.1 (by omega) (by omega);rw [← HYS.out] at hvs;refine hvs.mono ?_;clear hvs;rintro e X11 ⟨rfl,hb⟩;replace hyr:=hyr.below hb;replace hsb:=hsb.below hb;replace hbz:=below_up hbz hb;clear hb;go_wp2_with fail;refine hK.out _ _ (⟨(HB.out _ hbz).1.fourR,(HB.out _ hbz).2.1.w5,(HB.out _ hbz).2.2.1.w7⟩) (fun hHeld => ?_);clear hK K;(try simp only [Act.put,Q3,Q4,Q5])
              generalize X11 = U at *)
             rotate_left 1
             all_goals (
              refine QR 13 fun K hK => ?_;obtain ⟨s0',s1',s2'⟩:=hsb.w3;have f0:=hsb.thaw 0;have f1:=hsb.thaw 1;have f2:=hsb.thaw 2;have zs:=hsb.lt;go_simp;clear s0' s1' s2' f0 f1 f2 zs;replace hyr:=((hyr.setQ hyn 0 (.string ⟨d.dst.toArray⟩)).setQ hyn 1 (.slice YA yth.length yc)).setQ hyn 2 (.int .i64 (ys : Int));replace hsb:=((hsb.poke 0 (.string ⟨d.dst.toArray⟩)).poke 1 (.slice YA yth.length yc)).poke 2 (.int .i64 (ys : Int));replace hbz:=Below.setCell (Below.setCell (Below.setCell hbz (p:=⟨yb,0,none⟩) hbs (.string ⟨d.dst.toArray⟩)) (p:=⟨yb,1,none⟩) hbs (.slice YA yth.length yc)) (p:=⟨yb,2,none⟩) hbs (.int .i64 (ys : Int));generalize ((U.setCell ⟨yb,0,none⟩ (.string ⟨d.dst.toArray⟩)).setCell ⟨yb,1,none⟩ (.slice YA yth.length yc)).setCell ⟨yb,2,none⟩ (.int .i64 (ys : Int)) = U2 at *;refine hK.out _ _ (⟨(HB.out _ hbz).1.fourR,(HB.out _ hbz).2.1.w5,(HB.out _ hbz).2.2.1.w7⟩) (fun hHeld => ?_);clear hK K;(try simp only [Act.put,Q3,Q4,Q5]);refine wpAnyH_done (by kernel_rfl) ?_ _;go_wp2_with fail;go_meet
              exact ⟨yb,YA,yc,rfl,hsb,hyr,hyc,hbz⟩)
            case rest =>
             obtain ⟨yb,YA,yc,rfl,hyb,hyr,hyc,hbz⟩:=hcut;generalize wc = W14 at *;go_upto_region 21 with (fail)
             go_cut [22] from 86 to 100 (fun u wx => ∃ (qb : Nat) (QA : Option Addr) (qc : Nat),u = .pointer (some ⟨qb,0,none⟩) ∧ Blk wx qb 40 #[.slice QA (a.2.length + 1) qc,.int .i64 (a.1 + d.time)] ∧ Row wx 0 1 QA (a.2.length + 1) (strs (a.2.map (keyX ds) ++ [d.key])) ∧ Below W14.heap.size W14 wx)
             case first =>
              have hb4 : Below W14.heap.size W14 W14.drew:=below_drewN' (Below.refl _ _) 1;have hdt:=HR.out.time d HDM.out;have hwr : IntKind.i64.wrap (a.1 + d.time) = a.1 + d.time:=IntWalk.i64_in _ ⟨by omega,by omega⟩;have HAL : Hid ((a.2.map (keyX ds)).length = a.2.length):=Lib.hid (List.length_map _);go_wp2_with fail;refine wp_region_held_drew (S:=(fun w' => (w'.cell? ⟨w.heap.size,0,none⟩ = some (.slice A rs.length ca) ∧ w'.cell? ⟨w.heap.size,1,none⟩ = some (.slice (some ⟨db,doff,none⟩) ds.length cd) ∧ w'.cell? ⟨w.heap.size,2,none⟩ = some (.string ⟨st.toArray⟩) ∧ w'.cell? ⟨w.heap.size,3,none⟩ = some (.string ⟨gl.toArray⟩)) ∧ (w'.cell? ⟨xb,0,none⟩ = some (.string ⟨xr.toArray⟩) ∧ w'.cell? ⟨xb,1,none⟩ = some (.slice pta xth.length ptc) ∧ w'.cell? ⟨xb,2,none⟩ = some (.int .i64 (x.s : Int)) ∧ w'.cell? ⟨xb,3,none⟩ = some (.slice pda a.2.length pdc) ∧ w'.cell? ⟨xb,4,none⟩ = some (.int .i64 a.1)) ∧ (w'.cell? ⟨dx,0,none⟩ = some (.string ⟨d.key.toArray⟩) ∧ w'.cell? ⟨dx,1,none⟩ = some (.string ⟨d.src.toArray⟩) ∧ w'.cell? ⟨dx,2,none⟩ = some (.string ⟨d.dst.toArray⟩) ∧ w'.cell? ⟨dx,3,none⟩ = some (.int .i64 d.time) ∧ w'.cell? ⟨dx,4,none⟩ = some (.slice d.N d.needs.length d.nc) ∧ w'.cell? ⟨dx,5,none⟩ = some (.slice d.T d.takes.length d.tc) ∧ w'.cell? ⟨dx,6,none⟩ = some (.string ⟨d.trick.toArray⟩)))) (by kernel_rfl) (⟨(HB.out _ (below_up hbz hb4)).1.fourR,(HB.out _ (below_up hbz hb4)).2.1.w5,(HB.out _ (below_up hbz hb4)).2.2.1.w7⟩) (fun hHeld => ?_);generalize W14.drew = X at *;(refine QU 0 ?_; (try simp only [Act.put,Q3,Q4,Q5]));(refine QU 1 ?_; (try simp only [Act.put,Q3,Q4,Q5]));(refine QU 2 ?_; (try simp only [Act.put,Q3,Q4,Q5]));(refine QU 4 ?_; (try simp only [Act.put,Q3,Q4,Q5]));(refine QU 5 ?_; (try simp only [Act.put,Q3,Q4,Q5]));(refine QU 8 ?_; (try simp only [Act.put,Q3,Q4,Q5]));(refine QU 9 ?_; (try simp only [Act.put,Q3,Q4,Q5]));(refine QU 10 ?_; (try simp only [Act.put,Q3,Q4,Q5]));(refine QU 11 ?_; (try simp only [Act.put,Q3,Q4,Q5]));(refine QU 12 ?_; (try simp only [Act.put,Q3,Q4,Q5]));(refine QU 13 ?_; (try simp only [Act.put,Q3,Q4,Q5]));refine wpAnyH_ready (rs:=[3,6,15]) (by kernel_rfl) (by simp) ?_;refine AllReadyH.cons rfl (fun K hK => ?_) (AllReadyH.cons rfl (fun K hK => ?_) (AllReadyH.cons rfl (fun K hK => ?_) AllReadyH.nil))
              focus (
               go_simp;go_at_call 101;have hcl:=cloneS_any pda pdc 0 (a.2.map (keyX ds)) X (by rw [HAL.out]; exact (HB.out _ (below_up hbz hb4)).2.2.2.2.2.2) (by rw [HAL.out]; omega);rw [HAL.out] at hcl;refine hcl.mono ?_;clear hcl;rintro e X3 ⟨CA,cc,rfl,hcr,hb⟩;replace hcr:=own_down9 hcr (show W14.heap.size ≤ X.heap.size from hb4.size)
               skip
               replace hb4:=below_up hb4 hb;clear hb;go_wp2_with fail;refine hK.out _ _ (⟨(HB.out _ (below_up hbz hb4)).1.fourR,(HB.out _ (below_up hbz hb4)).2.1.w5,(HB.out _ (below_up hbz hb4)).2.2.1.w7⟩) (fun hHeld => ?_);clear hK K;(try simp only [Act.put,Q3,Q4,Q5]);refine wpAnyH_ready (rs:=[6,15]) (by kernel_rfl) (by simp) ?_;refine AllReadyH.cons rfl (fun K hK => ?_) (AllReadyH.cons rfl (fun K hK => ?_) AllReadyH.nil)
               focus (
                go_simp;have hlk : Blk (X3.alloc (.cells #[.string ⟨d.key.toArray⟩] 9)) X3.heap.size 9 #[.string ⟨d.key.toArray⟩]:=Blk.new _ _ _;have hba : Below X3.heap.size X3 (X3.alloc (.cells #[.string ⟨d.key.toArray⟩] 9)):=(Below.refl _ _).alloc (Nat.le_refl _) _;replace hcr:=own_keep hcr hba;have hlb : W14.heap.size ≤ X3.heap.size:=hb4.size;replace hb4:=below_up hb4 hba;clear hba;generalize X3.alloc (.cells #[.string ⟨d.key.toArray⟩] 9) = X6 at *;generalize X3.heap.size = kb at *;refine hK.out _ _ (⟨(HB.out _ (below_up hbz hb4)).1.fourR,(HB.out _ (below_up hbz hb4)).2.1.w5,(HB.out _ (below_up hbz hb4)).2.2.1.w7⟩) (fun hHeld => ?_);clear hK K;(try simp only [Act.put,Q3,Q4,Q5]);refine wpAnyH_ready (rs:=[7,15]) (by kernel_rfl) (by simp) ?_;refine AllReadyH.cons rfl (fun K hK => ?_) (AllReadyH.cons rfl (fun K hK => ?_) AllReadyH.nil)
                focus (
                 refine step_app (lo:=kb) (base:=W14.heap.size) (n:=a.2.length) (xs:=strs (a.2.map (keyX ds))) _ rfl _ _ ty_strs rfl hcr rfl (Row.lit hlk (Nat.le_refl _) rfl) rfl rfl (by omega) (by omega) hb4.size ?_;intro QA qc X7 hown7 hg7 _;replace hb4:=hb4.grown hg7 hb4.size (fun q hq => (hcr.lt q hq).1)
                 skip
                 replace hcr : X7.ownsRow W14.heap.size 9 1 (.slice QA (a.2.length + 1) qc) (a.2.length + 1) (strs (a.2.map (keyX ds) ++ [d.key])):=by simpa [strs,encStr] using hown7
                 clear hown7 hg7 hlk;refine hK.out _ _ (⟨(HB.out _ (below_up hbz hb4)).1.fourR,(HB.out _ (below_up hbz hb4)).2.1.w5,(HB.out _ (below_up hbz hb4)).2.2.1.w7⟩) (fun hHeld => ?_);clear hK K;(try simp only [Act.put,Q3,Q4,Q5]);(refine QU 14 ?_; (try simp only [Act.put,Q3,Q4,Q5]));refine QR 15 fun K hK => ?_;go_simp;have hqb : Blk (X7.alloc (.cells #[.slice none 0 0,.int .i64 0] 40)) X7.heap.size 40 #[.slice none 0 0,.int .i64 0]:=Blk.new _ _ _;have hba : Below X7.heap.size X7 (X7.alloc (.cells #[.slice none 0 0,.int .i64 0] 40)):=(Below.refl _ _).alloc (Nat.le_refl _) _;replace hcr:=own_keep hcr hba;have hqz : W14.heap.size ≤ X7.heap.size:=hb4.size;replace hb4:=below_up hb4 hba;clear hba;generalize X7.alloc (.cells #[.slice none 0 0,.int .i64 0] 40) = X15 at *;generalize X7.heap.size = qb at *;refine hK.out _ _ (⟨(HB.out _ (below_up hbz hb4)).1.fourR,(HB.out _ (below_up hbz hb4)).2.1.w5,(HB.out _ (below_up hbz hb4)).2.2.1.w7⟩) (fun hHeld => ?_);clear hK K;(try simp only [Act.put,Q3,Q4,Q5])
                 generalize X15 = U at *)
                rotate_left 1
                focus (
                 go_simp;have hqb : Blk (X6.alloc (.cells #[.slice none 0 0,.int .i64 0] 40)) X6.heap.size 40 #[.slice none 0 0,.int .i64 0]:=Blk.new _ _ _;have hba : Below X6.heap.size X6 (X6.alloc (.cells #[.slice none 0 0,.int .i64 0] 40)):=(Below.refl _ _).alloc (Nat.le_refl _) _;replace hcr:=own_keep hcr hba;replace hlk:=hlk.below hba;have hqz : W14.heap.size ≤ X6.heap.size:=hb4.size;replace hb4:=below_up hb4 hba;clear hba;generalize X6.alloc (.cells #[.slice none 0 0,.int .i64 0] 40) = X15 at *;generalize X6.heap.size = qb at *;refine hK.out _ _ (⟨(HB.out _ (below_up hbz hb4)).1.fourR,(HB.out _ (below_up hbz hb4)).2.1.w5,(HB.out _ (below_up hbz hb4)).2.2.1.w7⟩) (fun hHeld => ?_);clear hK K;(try simp only [Act.put,Q3,Q4,Q5]);refine QR 7 fun K hK => ?_;refine step_app (lo:=kb) (base:=W14.heap.size) (n:=a.2.length) (xs:=strs (a.2.map (keyX ds))) _ rfl _ _ ty_strs rfl hcr rfl (Row.lit hlk (Nat.le_refl _) rfl) rfl rfl (by omega) (by omega) hb4.size ?_;intro QA qc X7 hown7 hg7 _;replace hb4:=hb4.grown hg7 hb4.size (fun q hq => (hcr.lt q hq).1);replace hqb:=Blk.app hcr hqb hg7 (by decide)
                 replace hcr : X7.ownsRow W14.heap.size 9 1 (.slice QA (a.2.length + 1) qc) (a.2.length + 1) (strs (a.2.map (keyX ds) ++ [d.key])):=by simpa [strs,encStr] using hown7
                 clear hown7 hg7 hlk;refine hK.out _ _ (⟨(HB.out _ (below_up hbz hb4)).1.fourR,(HB.out _ (below_up hbz hb4)).2.1.w5,(HB.out _ (below_up hbz hb4)).2.2.1.w7⟩) (fun hHeld => ?_);clear hK K;(try simp only [Act.put,Q3,Q4,Q5]);(refine QU 14 ?_; (try simp only [Act.put,Q3,Q4,Q5]))
                 generalize X7 = U at *)
                rotate_left 1)
               rotate_left 2
               focus (
                go_simp;have hqb : Blk (X3.alloc (.cells #[.slice none 0 0,.int .i64 0] 40)) X3.heap.size 40 #[.slice none 0 0,.int .i64 0]:=Blk.new _ _ _;have hba : Below X3.heap.size X3 (X3.alloc (.cells #[.slice none 0 0,.int .i64 0] 40)):=(Below.refl _ _).alloc (Nat.le_refl _) _;replace hcr:=own_keep hcr hba;have hqz : W14.heap.size ≤ X3.heap.size:=hb4.size;replace hb4:=below_up hb4 hba;clear hba;generalize X3.alloc (.cells #[.slice none 0 0,.int .i64 0] 40) = X15 at *;generalize X3.heap.size = qb at *;refine hK.out _ _ (⟨(HB.out _ (below_up hbz hb4)).1.fourR,(HB.out _ (below_up hbz hb4)).2.1.w5,(HB.out _ (below_up hbz hb4)).2.2.1.w7⟩) (fun hHeld => ?_);clear hK K;(try simp only [Act.put,Q3,Q4,Q5]);refine QR 6 fun K hK => ?_;go_simp;have hlk : Blk (X15.alloc (.cells #[.string ⟨d.key.toArray⟩] 9)) X15.heap.size 9 #[.string ⟨d.key.toArray⟩]:=Blk.new _ _ _;have hba : Below X15.heap.size X15 (X15.alloc (.cells #[.string ⟨d.key.toArray⟩] 9)):=(Below.refl _ _).alloc (Nat.le_refl _) _;replace hcr:=own_keep hcr hba;replace hqb:=hqb.below hba;have hlb : W14.heap.size ≤ X15.heap.size:=hb4.size;replace hb4:=below_up hb4 hba;clear hba;generalize X15.alloc (.cells #[.string ⟨d.key.toArray⟩] 9) = X6 at *;generalize X15.heap.size = kb at *;refine hK.out _ _ (⟨(HB.out _ (below_up hbz hb4)).1.fourR,(HB.out _ (below_up hbz hb4)).2.1.w5,(HB.out _ (below_up hbz hb4)).2.2.1.w7⟩) (fun hHeld => ?_);clear hK K;(try simp only [Act.put,Q3,Q4,Q5]);refine QR 7 fun K hK => ?_;refine step_app (lo:=kb) (base:=W14.heap.size) (n:=a.2.length) (xs:=strs (a.2.map (keyX ds))) _ rfl _ _ ty_strs rfl hcr rfl (Row.lit hlk (Nat.le_refl _) rfl) rfl rfl (by omega) (by omega) hb4.size ?_;intro QA qc X7 hown7 hg7 _;replace hb4:=hb4.grown hg7 hb4.size (fun q hq => (hcr.lt q hq).1);replace hqb:=Blk.app hcr hqb hg7 (by decide)
                replace hcr : X7.ownsRow W14.heap.size 9 1 (.slice QA (a.2.length + 1) qc) (a.2.length + 1) (strs (a.2.map (keyX ds) ++ [d.key])):=by simpa [strs,encStr] using hown7
                clear hown7 hg7 hlk;refine hK.out _ _ (⟨(HB.out _ (below_up hbz hb4)).1.fourR,(HB.out _ (below_up hbz hb4)).2.1.w5,(HB.out _ (below_up hbz hb4)).2.2.1.w7⟩) (fun hHeld => ?_);clear hK K;(try simp only [Act.put,Q3,Q4,Q5]);(refine QU 14 ?_; (try simp only [Act.put,Q3,Q4,Q5]))
                generalize X7 = U at *)
               rotate_left 1)
              rotate_left 3
              focus (
               go_simp;have hlk : Blk (X.alloc (.cells #[.string ⟨d.key.toArray⟩] 9)) X.heap.size 9 #[.string ⟨d.key.toArray⟩]:=Blk.new _ _ _;have hba : Below X.heap.size X (X.alloc (.cells #[.string ⟨d.key.toArray⟩] 9)):=(Below.refl _ _).alloc (Nat.le_refl _) _
               skip
               have hlb : W14.heap.size ≤ X.heap.size:=hb4.size;replace hb4:=below_up hb4 hba;clear hba;generalize X.alloc (.cells #[.string ⟨d.key.toArray⟩] 9) = X6 at *;generalize X.heap.size = kb at *;refine hK.out _ _ (⟨(HB.out _ (below_up hbz hb4)).1.fourR,(HB.out _ (below_up hbz hb4)).2.1.w5,(HB.out _ (below_up hbz hb4)).2.2.1.w7⟩) (fun hHeld => ?_);clear hK K;(try simp only [Act.put,Q3,Q4,Q5]);refine wpAnyH_ready (rs:=[3,15]) (by kernel_rfl) (by simp) ?_;refine AllReadyH.cons rfl (fun K hK => ?_) (AllReadyH.cons rfl (fun K hK => ?_) AllReadyH.nil)
               focus (
                go_simp;go_at_call 101;have hcl:=cloneS_any pda pdc 0 (a.2.map (keyX ds)) X6 (by rw [HAL.out]; exact (HB.out _ (below_up hbz hb4)).2.2.2.2.2.2) (by rw [HAL.out]; omega);rw [HAL.out] at hcl;refine hcl.mono ?_;clear hcl;rintro e X3 ⟨CA,cc,rfl,hcr,hb⟩;replace hcr:=own_down9 hcr (show W14.heap.size ≤ X6.heap.size from hb4.size);replace hlk:=hlk.below hb;replace hb4:=below_up hb4 hb;clear hb;go_wp2_with fail;refine hK.out _ _ (⟨(HB.out _ (below_up hbz hb4)).1.fourR,(HB.out _ (below_up hbz hb4)).2.1.w5,(HB.out _ (below_up hbz hb4)).2.2.1.w7⟩) (fun hHeld => ?_);clear hK K;(try simp only [Act.put,Q3,Q4,Q5]);refine wpAnyH_ready (rs:=[7,15]) (by kernel_rfl) (by simp) ?_;refine AllReadyH.cons rfl (fun K hK => ?_) (AllReadyH.cons rfl (fun K hK => ?_) AllReadyH.nil)
                focus (
                 refine step_app (lo:=kb) (base:=W14.heap.size) (n:=a.2.length) (xs:=strs (a.2.map (keyX ds))) _ rfl _ _ ty_strs rfl hcr rfl (Row.lit hlk (Nat.le_refl _) rfl) rfl rfl (by omega) (by omega) hb4.size ?_;intro QA qc X7 hown7 hg7 _;replace hb4:=hb4.grown hg7 hb4.size (fun q hq => (hcr.lt q hq).1)
                 skip
                 replace hcr : X7.ownsRow W14.heap.size 9 1 (.slice QA (a.2.length + 1) qc) (a.2.length + 1) (strs (a.2.map (keyX ds) ++ [d.key])):=by simpa [strs,encStr] using hown7
                 clear hown7 hg7 hlk;refine hK.out _ _ (⟨(HB.out _ (below_up hbz hb4)).1.fourR,(HB.out _ (below_up hbz hb4)).2.1.w5,(HB.out _ (below_up hbz hb4)).2.2.1.w7⟩) (fun hHeld => ?_);clear hK K;(try simp only [Act.put,Q3,Q4,Q5]);(refine QU 14 ?_; (try simp only [Act.put,Q3,Q4,Q5]));refine QR 15 fun K hK => ?_;go_simp;have hqb : Blk (X7.alloc (.cells #[.slice none 0 0,.int .i64 0] 40)) X7.heap.size 40 #[.slice none 0 0,.int .i64 0]:=Blk.new _ _ _;have hba : Below X7.heap.size X7 (X7.alloc (.cells #[.slice none 0 0,.int .i64 0] 40)):=(Below.refl _ _).alloc (Nat.le_refl _) _;replace hcr:=own_keep hcr hba;have hqz : W14.heap.size ≤ X7.heap.size:=hb4.size;replace hb4:=below_up hb4 hba;clear hba;generalize X7.alloc (.cells #[.slice none 0 0,.int .i64 0] 40) = X15 at *;generalize X7.heap.size = qb at *;refine hK.out _ _ (⟨(HB.out _ (below_up hbz hb4)).1.fourR,(HB.out _ (below_up hbz hb4)).2.1.w5,(HB.out _ (below_up hbz hb4)).2.2.1.w7⟩) (fun hHeld => ?_);clear hK K;(try simp only [Act.put,Q3,Q4,Q5])
                 generalize X15 = U at *)
                rotate_left 1
                focus (
                 go_simp;have hqb : Blk (X3.alloc (.cells #[.slice none 0 0,.int .i64 0] 40)) X3.heap.size 40 #[.slice none 0 0,.int .i64 0]:=Blk.new _ _ _;have hba : Below X3.heap.size X3 (X3.alloc (.cells #[.slice none 0 0,.int .i64 0] 40)):=(Below.refl _ _).alloc (Nat.le_refl _) _;replace hcr:=own_keep hcr hba;replace hlk:=hlk.below hba;have hqz : W14.heap.size ≤ X3.heap.size:=hb4.size;replace hb4:=below_up hb4 hba;clear hba;generalize X3.alloc (.cells #[.slice none 0 0,.int .i64 0] 40) = X15 at *;generalize X3.heap.size = qb at *;refine hK.out _ _ (⟨(HB.out _ (below_up hbz hb4)).1.fourR,(HB.out _ (below_up hbz hb4)).2.1.w5,(HB.out _ (below_up hbz hb4)).2.2.1.w7⟩) (fun hHeld => ?_);clear hK K;(try simp only [Act.put,Q3,Q4,Q5]);refine QR 7 fun K hK => ?_;refine step_app (lo:=kb) (base:=W14.heap.size) (n:=a.2.length) (xs:=strs (a.2.map (keyX ds))) _ rfl _ _ ty_strs rfl hcr rfl (Row.lit hlk (Nat.le_refl _) rfl) rfl rfl (by omega) (by omega) hb4.size ?_;intro QA qc X7 hown7 hg7 _;replace hb4:=hb4.grown hg7 hb4.size (fun q hq => (hcr.lt q hq).1);replace hqb:=Blk.app hcr hqb hg7 (by decide)
                 replace hcr : X7.ownsRow W14.heap.size 9 1 (.slice QA (a.2.length + 1) qc) (a.2.length + 1) (strs (a.2.map (keyX ds) ++ [d.key])):=by simpa [strs,encStr] using hown7
                 clear hown7 hg7 hlk;refine hK.out _ _ (⟨(HB.out _ (below_up hbz hb4)).1.fourR,(HB.out _ (below_up hbz hb4)).2.1.w5,(HB.out _ (below_up hbz hb4)).2.2.1.w7⟩) (fun hHeld => ?_);clear hK K;(try simp only [Act.put,Q3,Q4,Q5]);(refine QU 14 ?_; (try simp only [Act.put,Q3,Q4,Q5]))
                 generalize X7 = U at *)
                rotate_left 1)
               rotate_left 2
               focus (
                go_simp;have hqb : Blk (X6.alloc (.cells #[.slice none 0 0,.int .i64 0] 40)) X6.heap.size 40 #[.slice none 0 0,.int .i64 0]:=Blk.new _ _ _;have hba : Below X6.heap.size X6 (X6.alloc (.cells #[.slice none 0 0,.int .i64 0] 40)):=(Below.refl _ _).alloc (Nat.le_refl _) _;replace hlk:=hlk.below hba;have hqz : W14.heap.size ≤ X6.heap.size:=hb4.size;replace hb4:=below_up hb4 hba;clear hba;generalize X6.alloc (.cells #[.slice none 0 0,.int .i64 0] 40) = X15 at *;generalize X6.heap.size = qb at *;refine hK.out _ _ (⟨(HB.out _ (below_up hbz hb4)).1.fourR,(HB.out _ (below_up hbz hb4)).2.1.w5,(HB.out _ (below_up hbz hb4)).2.2.1.w7⟩) (fun hHeld => ?_);clear hK K;(try simp only [Act.put,Q3,Q4,Q5]);refine QR 3 fun K hK => ?_;go_simp;go_at_call 101;have hcl:=cloneS_any pda pdc 0 (a.2.map (keyX ds)) X15 (by rw [HAL.out]; exact (HB.out _ (below_up hbz hb4)).2.2.2.2.2.2) (by rw [HAL.out]; omega);rw [HAL.out] at hcl;refine hcl.mono ?_;clear hcl;rintro e X3 ⟨CA,cc,rfl,hcr,hb⟩;replace hcr:=own_down9 hcr (show W14.heap.size ≤ X15.heap.size from hb4.size);replace hlk:=hlk.below hb;replace hqb:=hqb.below hb;replace hb4:=below_up hb4 hb;clear hb;go_wp2_with fail;refine hK.out _ _ (⟨(HB.out _ (below_up hbz hb4)).1.fourR,(HB.out _ (below_up hbz hb4)).2.1.w5,(HB.out _ (below_up hbz hb4)).2.2.1.w7⟩) (fun hHeld => ?_);clear hK K;(try simp only [Act.put,Q3,Q4,Q5]);refine QR 7 fun K hK => ?_;refine step_app (lo:=kb) (base:=W14.heap.size) (n:=a.2.length) (xs:=strs (a.2.map (keyX ds))) _ rfl _ _ ty_strs rfl hcr rfl (Row.lit hlk (Nat.le_refl _) rfl) rfl rfl (by omega) (by omega) hb4.size ?_;intro QA qc X7 hown7 hg7 _;replace hb4:=hb4.grown hg7 hb4.size (fun q hq => (hcr.lt q hq).1);replace hqb:=Blk.app hcr hqb hg7 (by decide)
                replace hcr : X7.ownsRow W14.heap.size 9 1 (.slice QA (a.2.length + 1) qc) (a.2.length + 1) (strs (a.2.map (keyX ds) ++ [d.key])):=by simpa [strs,encStr] using hown7
                clear hown7 hg7 hlk;refine hK.out _ _ (⟨(HB.out _ (below_up hbz hb4)).1.fourR,(HB.out _ (below_up hbz hb4)).2.1.w5,(HB.out _ (below_up hbz hb4)).2.2.1.w7⟩) (fun hHeld => ?_);clear hK K;(try simp only [Act.put,Q3,Q4,Q5]);(refine QU 14 ?_; (try simp only [Act.put,Q3,Q4,Q5]))
                generalize X7 = U at *)
               rotate_left 1)
              rotate_left 3
              focus (
               go_simp;have hqb : Blk (X.alloc (.cells #[.slice none 0 0,.int .i64 0] 40)) X.heap.size 40 #[.slice none 0 0,.int .i64 0]:=Blk.new _ _ _;have hba : Below X.heap.size X (X.alloc (.cells #[.slice none 0 0,.int .i64 0] 40)):=(Below.refl _ _).alloc (Nat.le_refl _) _
               skip
               have hqz : W14.heap.size ≤ X.heap.size:=hb4.size;replace hb4:=below_up hb4 hba;clear hba;generalize X.alloc (.cells #[.slice none 0 0,.int .i64 0] 40) = X15 at *;generalize X.heap.size = qb at *;refine hK.out _ _ (⟨(HB.out _ (below_up hbz hb4)).1.fourR,(HB.out _ (below_up hbz hb4)).2.1.w5,(HB.out _ (below_up hbz hb4)).2.2.1.w7⟩) (fun hHeld => ?_);clear hK K;(try simp only [Act.put,Q3,Q4,Q5]);refine wpAnyH_ready (rs:=[3,6]) (by kernel_rfl) (by simp) ?_;refine AllReadyH.cons rfl (fun K hK => ?_) (AllReadyH.cons rfl (fun K hK => ?_) AllReadyH.nil)
               focus (
                go_simp;go_at_call 101;have hcl:=cloneS_any pda pdc 0 (a.2.map (keyX ds)) X15 (by rw [HAL.out]; exact (HB.out _ (below_up hbz hb4)).2.2.2.2.2.2) (by rw [HAL.out]; omega);rw [HAL.out] at hcl;refine hcl.mono ?_;clear hcl;rintro e X3 ⟨CA,cc,rfl,hcr,hb⟩;replace hcr:=own_down9 hcr (show W14.heap.size ≤ X15.heap.size from hb4.size);replace hqb:=hqb.below hb;replace hb4:=below_up hb4 hb;clear hb;go_wp2_with fail;refine hK.out _ _ (⟨(HB.out _ (below_up hbz hb4)).1.fourR,(HB.out _ (below_up hbz hb4)).2.1.w5,(HB.out _ (below_up hbz hb4)).2.2.1.w7⟩) (fun hHeld => ?_);clear hK K;(try simp only [Act.put,Q3,Q4,Q5]);refine QR 6 fun K hK => ?_;go_simp;have hlk : Blk (X3.alloc (.cells #[.string ⟨d.key.toArray⟩] 9)) X3.heap.size 9 #[.string ⟨d.key.toArray⟩]:=Blk.new _ _ _;have hba : Below X3.heap.size X3 (X3.alloc (.cells #[.string ⟨d.key.toArray⟩] 9)):=(Below.refl _ _).alloc (Nat.le_refl _) _;replace hcr:=own_keep hcr hba;replace hqb:=hqb.below hba;have hlb : W14.heap.size ≤ X3.heap.size:=hb4.size;replace hb4:=below_up hb4 hba;clear hba;generalize X3.alloc (.cells #[.string ⟨d.key.toArray⟩] 9) = X6 at *;generalize X3.heap.size = kb at *;refine hK.out _ _ (⟨(HB.out _ (below_up hbz hb4)).1.fourR,(HB.out _ (below_up hbz hb4)).2.1.w5,(HB.out _ (below_up hbz hb4)).2.2.1.w7⟩) (fun hHeld => ?_);clear hK K;(try simp only [Act.put,Q3,Q4,Q5]);refine QR 7 fun K hK => ?_;refine step_app (lo:=kb) (base:=W14.heap.size) (n:=a.2.length) (xs:=strs (a.2.map (keyX ds))) _ rfl _ _ ty_strs rfl hcr rfl (Row.lit hlk (Nat.le_refl _) rfl) rfl rfl (by omega) (by omega) hb4.size ?_;intro QA qc X7 hown7 hg7 _;replace hb4:=hb4.grown hg7 hb4.size (fun q hq => (hcr.lt q hq).1);replace hqb:=Blk.app hcr hqb hg7 (by decide)
                replace hcr : X7.ownsRow W14.heap.size 9 1 (.slice QA (a.2.length + 1) qc) (a.2.length + 1) (strs (a.2.map (keyX ds) ++ [d.key])):=by simpa [strs,encStr] using hown7
                clear hown7 hg7 hlk;refine hK.out _ _ (⟨(HB.out _ (below_up hbz hb4)).1.fourR,(HB.out _ (below_up hbz hb4)).2.1.w5,(HB.out _ (below_up hbz hb4)).2.2.1.w7⟩) (fun hHeld => ?_);clear hK K;(try simp only [Act.put,Q3,Q4,Q5]);(refine QU 14 ?_; (try simp only [Act.put,Q3,Q4,Q5]))
                generalize X7 = U at *)
               rotate_left 1
               focus (
                go_simp;have hlk : Blk (X15.alloc (.cells #[.string ⟨d.key.toArray⟩] 9)) X15.heap.size 9 #[.string ⟨d.key.toArray⟩]:=Blk.new _ _ _;have hba : Below X15.heap.size X15 (X15.alloc (.cells #[.string ⟨d.key.toArray⟩] 9)):=(Below.refl _ _).alloc (Nat.le_refl _) _;replace hqb:=hqb.below hba;have hlb : W14.heap.size ≤ X15.heap.size:=hb4.size;replace hb4:=below_up hb4 hba;clear hba;generalize X15.alloc (.cells #[.string ⟨d.key.toArray⟩] 9) = X6 at *;generalize X15.heap.size = kb at *;refine hK.out _ _ (⟨(HB.out _ (below_up hbz hb4)).1.fourR,(HB.out _ (below_up hbz hb4)).2.1.w5,(HB.out _ (below_up hbz hb4)).2.2.1.w7⟩) (fun hHeld => ?_);clear hK K;(try simp only [Act.put,Q3,Q4,Q5]);refine QR 3 fun K hK => ?_;go_simp;go_at_call 101;have hcl:=cloneS_any pda pdc 0 (a.2.map (keyX ds)) X6 (by rw [HAL.out]; exact (HB.out _ (below_up hbz hb4)).2.2.2.2.2.2) (by rw [HAL.out]; omega);rw [HAL.out] at hcl;refine hcl.mono ?_;clear hcl;rintro e X3 ⟨CA,cc,rfl,hcr,hb⟩;replace hcr:=own_down9 hcr (show W14.heap.size ≤ X6.heap.size from hb4.size);replace hlk:=hlk.below hb;replace hqb:=hqb.below hb;replace hb4:=below_up hb4 hb;clear hb;go_wp2_with fail;refine hK.out _ _ (⟨(HB.out _ (below_up hbz hb4)).1.fourR,(HB.out _ (below_up hbz hb4)).2.1.w5,(HB.out _ (below_up hbz hb4)).2.2.1.w7⟩) (fun hHeld => ?_);clear hK K;(try simp only [Act.put,Q3,Q4,Q5]);refine QR 7 fun K hK => ?_;refine step_app (lo:=kb) (base:=W14.heap.size) (n:=a.2.length) (xs:=strs (a.2.map (keyX ds))) _ rfl _ _ ty_strs rfl hcr rfl (Row.lit hlk (Nat.le_refl _) rfl) rfl rfl (by omega) (by omega) hb4.size ?_;intro QA qc X7 hown7 hg7 _;replace hb4:=hb4.grown hg7 hb4.size (fun q hq => (hcr.lt q hq).1);replace hqb:=Blk.app hcr hqb hg7 (by decide)
                replace hcr : X7.ownsRow W14.heap.size 9 1 (.slice QA (a.2.length + 1) qc) (a.2.length + 1) (strs (a.2.map (keyX ds) ++ [d.key])):=by simpa [strs,encStr] using hown7
                clear hown7 hg7 hlk;refine hK.out _ _ (⟨(HB.out _ (below_up hbz hb4)).1.fourR,(HB.out _ (below_up hbz hb4)).2.1.w5,(HB.out _ (below_up hbz hb4)).2.2.1.w7⟩) (fun hHeld => ?_);clear hK K;(try simp only [Act.put,Q3,Q4,Q5]);(refine QU 14 ?_; (try simp only [Act.put,Q3,Q4,Q5]))
                generalize X7 = U at *)
               rotate_left 1)
              rotate_left 2
              all_goals (
               refine QR 16 fun K hK => ?_;obtain ⟨s0',s1'⟩:=hqb.w2;have f0:=hqb.thaw 0;have f1:=hqb.thaw 1;have zs:=hqb.lt;go_simp;clear s0' s1' f0 f1 zs;replace hcr:=own_past (own_past hcr hqb (by decide) 0 (.slice QA (a.2.length + 1) qc)) (hqb.poke 0 (.slice QA (a.2.length + 1) qc)) (by decide) 1 (.int .i64 (a.1 + d.time));replace hqb:=(hqb.poke 0 (.slice QA (a.2.length + 1) qc)).poke 1 (.int .i64 (a.1 + d.time));replace hb4:=Below.setCell (Below.setCell hb4 (p:=⟨qb,0,none⟩) hqz (.slice QA (a.2.length + 1) qc)) (p:=⟨qb,1,none⟩) hqz (.int .i64 (a.1 + d.time));generalize (U.setCell ⟨qb,0,none⟩ (.slice QA (a.2.length + 1) qc)).setCell ⟨qb,1,none⟩ (.int .i64 (a.1 + d.time)) = U2 at *;refine hK.out _ _ (⟨(HB.out _ (below_up hbz hb4)).1.fourR,(HB.out _ (below_up hbz hb4)).2.1.w5,(HB.out _ (below_up hbz hb4)).2.2.1.w7⟩) (fun hHeld => ?_);clear hK K;(try simp only [Act.put,Q3,Q4,Q5]);refine wpAnyH_done (by kernel_rfl) ?_ _;go_wp2_with fail;go_meet
               exact ⟨qb,QA,qc,rfl,hqb,row_down0 (Row.of_own hcr),hb4⟩)
             case rest =>
              obtain ⟨qb,QA,qc,rfl,hqb,hqr,hb4⟩:=hcut;generalize wc = W15 at *;replace hyb:=hyb.below hb4;replace hyr:=hyr.below hb4;replace hbz:=below_up hbz hb4;clear hb4;have HE : Hid (extP (tmX ds) a k = (a.1 + d.time,a.2 ++ [k]) ∧ (a.2 ++ [k]).map (keyX ds) = a.2.map (keyX ds) ++ [d.key] ∧ 1 ≤ tmX ds k):=Lib.hid ⟨by unfold extP; rw [HDX.out.2],by rw [List.map_append,← HDX.out.1]; rfl,(HTM.out x (k,y) HY.out.1).1⟩;have HC : Hid (∀ W,Below W15.heap.size W15 W → SpS (nxX rs T ds tr [] (sfR rs rooms)) ef (tmX ds) s0 rs ds T W mb K2 f2 M2 ∧ Z.grownBy W (some mb) ∧ W11.grownBy W (some mb) ∧ Blk W yb 124 #[.string ⟨d.dst.toArray⟩,.slice YA yth.length yc,.int .i64 (ys : Int)] ∧ Row W 0 1 YA yth.length (strs yth) ∧ Blk W qb 40 #[.slice QA (a.2.length + 1) qc,.int .i64 (a.1 + d.time)] ∧ Row W 0 1 QA (a.2.length + 1) (strs (a.2.map (keyX ds) ++ [d.key]))):=Lib.hid (fun W h => ⟨HS13.out.below (below_up hbz h),grown_bel HG13.out (below_up hbz h),grown_bel HR13.out (below_up hbz h),hyb.below h,hyr.below h,hqb.below h,hqr.below h⟩);clear hyb hyr hqb hqr hbz HB;have hbc : Below W15.heap.size W15 W15:=Below.refl _ _
              obtain ⟨is,p2,hf2,h20,HIS⟩ : ∃ (is : Bool) (p2 : FndC),(f2 (nameX rs T y) = if is then some p2 else none) ∧ (is = false → p2 = fnd0) ∧ Hid (if is then ∃ b,M2 y = some b else M2 y = none):=by
               cases hM2 : M2 y with
               | none => exact ⟨false,fnd0,HS13.out.fi.look HNM.out HY.out.2.2.1 hM2,fun _ => rfl,Lib.hid rfl⟩
               | some b =>
                obtain ⟨p,hp,_⟩:=HS13.out.fi.there y b hM2;exact ⟨true,p,hp,fun h => (by cases h),Lib.hid ⟨b,rfl⟩⟩
              have HF2:=Lib.hid hf2;have HNL : Hid ((nameX rs T y).length ≤ 1000):=Lib.hid (HNM.out.len y HY.out.2.2.1);have hna:=name_any 0 yc YA d.dst yth ys W15 hys5 (HC.out _ hbc).2.2.2.2.1 (by omega) hyc (HTB.out _ HYO.out).2 (HKB.out _ HDS.out);rw [← HY.out.2.2.2.2.2] at hna
              obtain ⟨nm,hnm⟩ : ∃ nm,nm = nameX rs T y:=⟨_,rfl⟩
              have HNN:=Lib.hid hnm;rw [← hnm] at hna hf2;clear hnm;obtain ⟨y0,y1,y2⟩:=(HC.out _ hbc).2.2.2.1.w3;have zy:=(HC.out _ hbc).2.2.2.1.lt;go_wp2_with fail;refine hna.mono ?_;clear hna;rintro e W16 ⟨rfl,hb⟩;replace hbc:=below_up hbc hb;clear hb y0 y1 y2 zy;have hM:=(HC.out _ hbc).1.mp
              have hnl : nm.length ≤ 1000:=by rw [HNN.out]; exact HNL.out
              go_upto_region 23 with (first
               | (at_lookup; refine wpList_lookFk rfl _ _ rfl rfl hM nm (by unfold maxLen; omega) rfl p2 is hf2 h20 ?_)
               | fail)
              have hob : Blk (W16.alloc (.cells #[.string ⟨p2.room.toArray⟩,.slice p2.ta p2.tn p2.tc,.int .i64 p2.done,.slice p2.da p2.dn p2.dc,.int .i64 p2.time] 147)) W16.heap.size 147 #[.string ⟨p2.room.toArray⟩,.slice p2.ta p2.tn p2.tc,.int .i64 p2.done,.slice p2.da p2.dn p2.dc,.int .i64 p2.time]:=Blk.new _ _ _;replace hbc:=hbc.alloc hbc.size (.cells #[.string ⟨p2.room.toArray⟩,.slice p2.ta p2.tn p2.tc,.int .i64 p2.done,.slice p2.da p2.dn p2.dc,.int .i64 p2.time] 147);clear hM hf2 h20;generalize W16.alloc (.cells #[.string ⟨p2.room.toArray⟩,.slice p2.ta p2.tn p2.tc,.int .i64 p2.done,.slice p2.da p2.dn p2.dc,.int .i64 p2.time] 147) = W17 at *;generalize W16.heap.size = ob at *
              cases is with
              | false =>
               have HBT : Hid (∀ b,M2 y = some b → ltP (extP (tmX ds) a k) b):=Lib.hid (fun b hb => by
                have h:=HIS.out;simp only [Bool.false_eq_true,if_false] at h
                rw [h] at hb; cases hb)
               clear hob HIS HF2;go_upto_region 24 with (fail);replace hbc : Below W15.heap.size W15 W17.drew:=hbc.drew;refine wp_region_held_drew (S:=(fun w' => (w'.cell? ⟨yb,0,none⟩ = some (.string ⟨d.dst.toArray⟩) ∧ w'.cell? ⟨yb,1,none⟩ = some (.slice YA yth.length yc) ∧ w'.cell? ⟨yb,2,none⟩ = some (.int .i64 (ys : Int))) ∧ (w'.cell? ⟨qb,0,none⟩ = some (.slice QA (a.2.length + 1) qc) ∧ w'.cell? ⟨qb,1,none⟩ = some (.int .i64 (a.1 + d.time))))) (by kernel_rfl) (⟨(HC.out _ hbc).2.2.2.1.w3,(HC.out _ hbc).2.2.2.2.2.1.w2⟩) (fun hHeld => ?_);generalize W17.drew = wd at *;(refine QU 0 ?_; (try simp only [Act.put,Q3,Q4,Q5]));(refine QU 1 ?_; (try simp only [Act.put,Q3,Q4,Q5]));(refine QU 3 ?_; (try simp only [Act.put,Q3,Q4,Q5]));(refine QU 4 ?_; (try simp only [Act.put,Q3,Q4,Q5]));(refine QU 5 ?_; (try simp only [Act.put,Q3,Q4,Q5]));refine QR 2 fun K hK => ?_;go_simp;go_at_call 66;have hna:=name_any 0 yc YA d.dst yth ys wd hys5 (HC.out _ hbc).2.2.2.2.1 (by omega) hyc (HTB.out _ HYO.out).2 (HKB.out _ HDS.out);rw [← HY.out.2.2.2.2.2] at hna;refine hna.mono ?_;clear hna;rintro e we ⟨rfl,hb⟩;replace hbc:=below_up hbc hb;clear hb;go_wp2_with fail;refine hK.out _ _ (⟨(HC.out _ hbc).2.2.2.1.w3,(HC.out _ hbc).2.2.2.2.2.1.w2⟩) (fun hHeld => ?_);clear hK K;(try simp only [Act.put,Q3,Q4,Q5]);refine QR 6 fun K hK => ?_;have hq:=HC.out _ hbc;have hkf2:=hq.1.few;refine step_insF (p:=⟨d.dst,YA,yth.length,yc,(ys : Int),QA,a.2.length + 1,qc,a.1 + d.time⟩) rfl _ _ _ (.inr rfl) rfl hq.1.mp (by have:=HNF.out; unfold maxLen; omega) (nameX rs T y) (by have:=HNL.out; unfold maxLen; omega) rfl rfl ?_;intro wf hmp2 hg2
               have hpn : FndOk we 0 ds (ptX rs T y) y.s (extP (tmX ds) a k) ⟨d.dst,YA,yth.length,yc,(ys : Int),QA,a.2.length + 1,qc,a.1 + d.time⟩:=by
                rw [HY.out.2.2.2.1,HY.out.2.2.2.2.1,HE.out.1];refine ⟨rfl,rfl,hyc,hq.2.2.2.2.1,rfl,by simp,?_,rfl⟩;simp only;rw [HE.out.2.1];have:=hq.2.2.2.2.2.2;rw [show (a.2 ++ [k]).length = a.2.length + 1 by simp];exact this
               have hnew:=hq.1.put HNM.out HY.out.2.2.1 hpn HRD.out.dr.way HRD.out.sim HEE.out.symm HY.out.1 HE.out.2.2 HBT.out hmp2 hg2;have hgn:=grown_trans' hq.2.1 hg2;have hgrn:=grown_trans' hq.2.2.1 hg2;clear hpn hmp2 hkf2;refine hK.out _ _ (⟨(blk_mapped hq.2.2.2.1 hq.1.mp.kind hg2).w3,(blk_mapped hq.2.2.2.2.2.1 hq.1.mp.kind hg2).w2⟩) (fun hHeld => ?_);clear hK K;(try simp only [Act.put,Q3,Q4,Q5]);refine wpAnyH_done (by kernel_rfl) ?_ _
               have HR2 : Hid (DrH (nxX rs T ds tr [] (sfR rs rooms)) ef (tmX ds) s0 M (putM M2 y (extP (tmX ds) a k)) (DnX rs T Ns M j) x a (k + 1) N r true):=Lib.hid ⟨HRD.out.dr.put HEE.out.symm HY.out.1 HY.out.2.1 HBT.out,HRD.out.sim.mono (putM_le fun b hb => leP_of_lt (HBT.out b hb)),(fun h => (by cases h)),fun h => (by
                obtain ⟨b,h1,h2⟩:=HRD.out.dr.still (fun x p h => (HTM.out x p h).1) HRd.out.1 (fun x a h3 => Nat.le_trans (HN.out x a h3) h) HEE.out.symm HY.out.1
                exact absurd (HBT.out b h1) h2)⟩
               go_wp2_with fail;go_roundw
               case rel => exact ⟨true,k + 1,_,_,_,rfl,by go_num,by omega,hnew,hgn,hgrn,HR2⟩
               case measure => simp [intOf]; omega
              | true =>
               obtain ⟨b,hb2⟩ : ∃ b,M2 y = some b:=by
                have h:=HIS.out;simp only [if_true] at h;exact h
               have HB2:=Lib.hid hb2;obtain ⟨p3,hp3,hpo⟩:=(HC.out _ hbc).1.fi.there y b hb2
               obtain rfl : p2 = p3:=by
                have h:=HF2.out;rw [hp3] at h;simp only [if_true,Option.some.injEq] at h;exact h.symm
               clear HF2 hp3 HIS hb2;rw [HY.out.2.2.2.1] at hpo;obtain ⟨pr2,pta2,ptn2,ptc2,pdo2,pda2,pdn2,pdc2,ptm2⟩:=p2;obtain ⟨e1,e2,e3,e4,e5,e6,e7,e8⟩:=hpo;simp only at e1 e2 e3 e4 e5 e6 e7 e8 hob;subst e6 e8;have hsb:=(HC.out _ hbc).1.si y b HB2.out;have hbl : b.2.length ≤ 614400:=Nat.le_trans ((HC.out _ hbc).1.short hsb) HNF.out;have HBD : Hid (∀ k ∈ b.2,k < ds.length):=Lib.hid (((HC.out _ hbc).1.sp.way y b HB2.out).door HIX.out)
               have hkl : (a.2.map (keyX ds) ++ [d.key]).length = a.2.length + 1:=by simp
               have hkl2 : (b.2.map (keyX ds)).length = b.2.length:=by simp
               have hbt:=better_any 0 0 qc pdc2 QA pda2 (a.2.map (keyX ds) ++ [d.key]) (b.2.map (keyX ds)) (a.1 + d.time) b.1 W17 (by rw [hkl]; exact (HC.out _ hbc).2.2.2.2.2.2) (by rw [hkl2]; exact e7) (by omega) (by omega);rw [hkl,hkl2] at hbt
               obtain ⟨bv,hbv⟩ : ∃ bv,bv = firstE [cmpI (a.1 + d.time) b.1,cmpI ((a.2.length + 1 : Nat) : Int) (b.2.length : Int),cmpLS (a.2.map (keyX ds) ++ [d.key]) (b.2.map (keyX ds))]:=⟨_,rfl⟩
               rw [← hbv] at hbt
               have HBV : Hid (bv < 0 ↔ ltP (extP (tmX ds) a k) b):=Lib.hid (by
                have h:=better_lt HR.out.dup (a:=extP (tmX ds) a k) (b:=b) (by
                 rw [HE.out.1];intro j hj;rcases List.mem_append.1 hj with h | h
                 ·exact HAD.out j h
                 ·rw [List.mem_singleton.1 h]; exact hkd) HBD.out
                rw [← h,hbv,HE.out.1];simp only
                rw [HE.out.2.1,hkl,hkl2])
               obtain ⟨o0,o1,o2,o3,o4⟩:=hob.w5;obtain ⟨r0,r1⟩:=(HC.out _ hbc).2.2.2.2.2.1.w2;have zo:=hob.lt;have zr:=(HC.out _ hbc).2.2.2.2.2.1.lt;clear hbv hsb hkl hkl2 e1 e2 e3 e4 e5 e7;go_wp2_with fail;refine hbt.mono ?_;clear hbt;rintro e W18 ⟨rfl,hb⟩;replace hbc:=below_up hbc hb;clear hb o0 o1 o2 o3 o4 r0 r1 zo zr hob
               by_cases hb0 : bv < 0
               ·have c1 : decide (bv < 0) = true:=decide_eq_true hb0
                have HBT : Hid (∀ b,M2 y = some b → ltP (extP (tmX ds) a k) b):=Lib.hid (fun b' hb' => by
                 rw [HB2.out] at hb';injection hb' with hb'
                 rw [← hb']; exact HBV.out.1 hb0)
                clear hb0;go_upto_region 24 with (fail);replace hbc : Below W15.heap.size W15 W18.drew:=hbc.drew;refine wp_region_held_drew (S:=(fun w' => (w'.cell? ⟨yb,0,none⟩ = some (.string ⟨d.dst.toArray⟩) ∧ w'.cell? ⟨yb,1,none⟩ = some (.slice YA yth.length yc) ∧ w'.cell? ⟨yb,2,none⟩ = some (.int .i64 (ys : Int))) ∧ (w'.cell? ⟨qb,0,none⟩ = some (.slice QA (a.2.length + 1) qc) ∧ w'.cell? ⟨qb,1,none⟩ = some (.int .i64 (a.1 + d.time))))) (by kernel_rfl) (⟨(HC.out _ hbc).2.2.2.1.w3,(HC.out _ hbc).2.2.2.2.2.1.w2⟩) (fun hHeld => ?_);generalize W18.drew = wd at *;(refine QU 0 ?_; (try simp only [Act.put,Q3,Q4,Q5]));(refine QU 1 ?_; (try simp only [Act.put,Q3,Q4,Q5]));(refine QU 3 ?_; (try simp only [Act.put,Q3,Q4,Q5]));(refine QU 4 ?_; (try simp only [Act.put,Q3,Q4,Q5]));(refine QU 5 ?_; (try simp only [Act.put,Q3,Q4,Q5]));refine QR 2 fun K hK => ?_;go_simp;go_at_call 66;have hna:=name_any 0 yc YA d.dst yth ys wd hys5 (HC.out _ hbc).2.2.2.2.1 (by omega) hyc (HTB.out _ HYO.out).2 (HKB.out _ HDS.out);rw [← HY.out.2.2.2.2.2] at hna;refine hna.mono ?_;clear hna;rintro e we ⟨rfl,hb⟩;replace hbc:=below_up hbc hb;clear hb;go_wp2_with fail;refine hK.out _ _ (⟨(HC.out _ hbc).2.2.2.1.w3,(HC.out _ hbc).2.2.2.2.2.1.w2⟩) (fun hHeld => ?_);clear hK K;(try simp only [Act.put,Q3,Q4,Q5]);refine QR 6 fun K hK => ?_;have hq:=HC.out _ hbc;have hkf2:=hq.1.few;refine step_insF (p:=⟨d.dst,YA,yth.length,yc,(ys : Int),QA,a.2.length + 1,qc,a.1 + d.time⟩) rfl _ _ _ (.inr rfl) rfl hq.1.mp (by have:=HNF.out; unfold maxLen; omega) (nameX rs T y) (by have:=HNL.out; unfold maxLen; omega) rfl rfl ?_;intro wf hmp2 hg2
                have hpn : FndOk we 0 ds (ptX rs T y) y.s (extP (tmX ds) a k) ⟨d.dst,YA,yth.length,yc,(ys : Int),QA,a.2.length + 1,qc,a.1 + d.time⟩:=by
                 rw [HY.out.2.2.2.1,HY.out.2.2.2.2.1,HE.out.1];refine ⟨rfl,rfl,hyc,hq.2.2.2.2.1,rfl,by simp,?_,rfl⟩;simp only;rw [HE.out.2.1];have:=hq.2.2.2.2.2.2;rw [show (a.2 ++ [k]).length = a.2.length + 1 by simp];exact this
                have hnew:=hq.1.put HNM.out HY.out.2.2.1 hpn HRD.out.dr.way HRD.out.sim HEE.out.symm HY.out.1 HE.out.2.2 HBT.out hmp2 hg2;have hgn:=grown_trans' hq.2.1 hg2;have hgrn:=grown_trans' hq.2.2.1 hg2;clear hpn hmp2 hkf2;refine hK.out _ _ (⟨(blk_mapped hq.2.2.2.1 hq.1.mp.kind hg2).w3,(blk_mapped hq.2.2.2.2.2.1 hq.1.mp.kind hg2).w2⟩) (fun hHeld => ?_);clear hK K;(try simp only [Act.put,Q3,Q4,Q5]);refine wpAnyH_done (by kernel_rfl) ?_ _
                have HR2 : Hid (DrH (nxX rs T ds tr [] (sfR rs rooms)) ef (tmX ds) s0 M (putM M2 y (extP (tmX ds) a k)) (DnX rs T Ns M j) x a (k + 1) N r true):=Lib.hid ⟨HRD.out.dr.put HEE.out.symm HY.out.1 HY.out.2.1 HBT.out,HRD.out.sim.mono (putM_le fun b hb => leP_of_lt (HBT.out b hb)),(fun h => (by cases h)),fun h => (by
                 obtain ⟨b,h1,h2⟩:=HRD.out.dr.still (fun x p h => (HTM.out x p h).1) HRd.out.1 (fun x a h3 => Nat.le_trans (HN.out x a h3) h) HEE.out.symm HY.out.1
                 exact absurd (HBT.out b h1) h2)⟩
                go_wp2_with fail;go_roundw
                case rel => exact ⟨true,k + 1,_,_,_,rfl,by go_num,by omega,hnew,hgn,hgrn,HR2⟩
                case measure => simp [intOf]; omega
               ·have c1 : decide (bv < 0) = false:=decide_eq_false hb0
                have HR2 : Hid (DrH (nxX rs T ds tr [] (sfR rs rooms)) ef (tmX ds) s0 M M2 (DnX rs T Ns M j) x a (k + 1) N r ag2):=Lib.hid ⟨HRD.out.dr.keep HY.out.2.1 HB2.out (fun h => hb0 (HBV.out.2 h)),HRD.out.sim,HRD.out.same,HRD.out.still⟩;have hq:=HC.out _ hbc;clear hb0;go_wp2_with fail;go_roundw
                case rel => exact ⟨ag2,k + 1,K2,f2,M2,rfl,by go_num,by omega,hq.1,hq.2.1,hq.2.2.1,HR2⟩
                case measure => simp [intOf]; omega
           ·have c0 : (ge != 0) = true:=bne_iff_ne.2 hg0
            have HR2 : Hid (DrH (nxX rs T ds tr [] (sfR rs rooms)) ef (tmX ds) s0 M M2 (DnX rs T Ns M j) x a (k + 1) N r ag2):=Lib.hid ⟨HRD.out.dr.skip (fun y hy => hg0 (HGE.out.trans ((HNI.out y).1 hy).1)),HRD.out.sim,HRD.out.same,HRD.out.still⟩;clear hg0;go_wp2_with fail;go_roundw
            case rel => exact ⟨ag2,k + 1,K2,f2,M2,rfl,by go_num,by omega,hS,hg,hgr,HR2⟩
            case measure => simp [intOf]; omega
          ·have hke : k = ds.length:=by omega
           subst hke
           have HR2 : Hid (RdH (nxX rs T ds tr [] (sfR rs rooms)) ef (tmX ds) s0 M M2 (DnX rs T Ns M (j + 1)) N r ag2):=Lib.hid ⟨HRD.out.dr.done (fun k y h => HIX.out x (k,y) h) (fun z hz => by
           unfold DnX at hz ⊢;rw [HTK.out,List.mem_append,List.mem_singleton] at hz;rcases hz.2 with h | h
           ·exact .inl ⟨hz.1,h⟩
           ·refine .inr ?_
            obtain ⟨b,hb⟩:=Option.isSome_iff_exists.1 hz.1
            exact HNM.out.inj z x (HSV.out.fi.good z b hb) HGX.out (h.trans HXN.out)),HRD.out.same,HRD.out.still⟩
           have hns:=(HW.out _ hgr).1;clear hgr;go_wp2_with fail;go_roundw
           case rel => exact ⟨ag2,j + 1,K2,f2,M2,rfl,by go_num,by omega,hS,hg,hns,HR2⟩
           case measure => simp [intOf]; omega
       ·have hje : j = Ns.length:=by omega
        subst hje
        have HDN : Hid (∀ z,(M z).isSome = true → DnX rs T Ns M Ns.length z):=Lib.hid (fun z hz => ⟨hz,by
         obtain ⟨b,hb⟩:=Option.isSome_iff_exists.1 hz;rw [List.take_length]
         exact HNS.out.2 z b hb⟩)
        have HL2 : Hid (SpL (nxX rs T ds tr [] (sfR rs rooms)) ef (tmX ds) s0 rs ds T N Z mb (.bool ag) wr (if ag then N - r else 0)):=Lib.hid (by
         cases ag with
         | true =>
          have hrn : ¬ N ≤ r:=fun h => by have:=HRN.out.still h; cases this
          exact ⟨true,r + 1,K1,f1,M1,rfl,hS,hg,Lib.hid ⟨HRN.out.rd.next HDN.out HRd.out.1,by omega,fun h => (by cases h)⟩,by simp⟩
         | false =>
          have he:=HRN.out.same rfl;subst he
          exact ⟨false,r,K1,f1,M1,rfl,hS,hg,Lib.hid ⟨HRd.out.1,HRd.out.2.1,fun _ => HRN.out.rd.best HDN.out⟩,rfl⟩)
        clear hS hg hns;go_wp2_with fail;go_roundw
        case rel => exact ⟨_,HL2.out⟩
        case measure =>
         have h1:=gm_le HL2.out;have h2:=HMU.out;have h3:=HMN.out;have h4:=HRd.out.2.1;simp only [if_true] at h3
         cases ag <;> simp at h1 <;> omega
     ·intro x p W7 cnt2 hlx hfx hrg2 hlt hg7 hs7 hen
      have HXK : Hid (x.length ≤ 1000 ∧ (l ++ [x]).length ≤ K.length ∧ (l ++ [x]).Nodup ∧ ∀ y,y ∈ l ++ [x] ↔ (f y).isSome = true ∧ (left y && !decide (y = x)) = false):=Lib.hid (by
       have hxl : x ∉ l:=fun h => by have:=((HL.out.1 x).1 h).2; rw [hlx] at this; cases this
       have hnd : (l ++ [x]).Nodup:=List.nodup_append.2 ⟨HL.out.2.1,by simp,fun z hz y hy => by rw [List.mem_singleton.1 hy]; rintro rfl; exact hxl hz⟩
       have hin : ∀ y,y ∈ l ++ [x] ↔ (f y).isSome = true ∧ (left y && !decide (y = x)) = false:=fun y => by
        by_cases e : y = x
        ·subst e; simp [hfx]
        ·rw [List.mem_append,List.mem_singleton,HL.out.1 y]; simp [e]
       refine ⟨?_,nodup_sub_len _ _ hnd (fun y hy => (HKM.out.1 y).2 ((hin y).1 hy).1),hnd,hin⟩;obtain ⟨z,a,h1,h2⟩:=HSV.out.fi.only x (by rw [hfx]; rfl)
       rw [h2]; exact HNM.out.len z (HSV.out.fi.good z a h1))
      have HLF2 : Hid (∀ y,(left y && !decide (y = x)) = true → (f y).isSome = true):=Lib.hid (fun y h => HL.out.2.2.2 y (by cases e : left y <;> simp [e] at h ⊢));have HLT : Hid (cnt2 < wr.rangeLeft mb V.heap.size):=Lib.hid (by rw [HLE.out]; exact hlt)
      have hxl : l.length + 1 ≤ 614400:=by have:=HXK.out.2.1; simp at this; omega
      have hown7:=own_keepB hown hg7 (fun k j hk hj => by injection hk with hk; have:=(hown.lt j hj).1; omega);have hb7:=hbv.grown hg7 hbv.size (fun q hq => by injection hq with hq; omega)
      have hbi7 : V.heap.size + 1 ≤ W7.heap.size:=by omega
      clear hrg HL HLE hlx hfx hlt hg7 hs7 hown hbv hbi hlk
      go_wp2_with (at_builtin; go_must (refine wpList_app (lo:=V.heap.size + 1) (base:=V.heap.size + 1) (n:=l.length) (xs:=strs l) _ _ rfl _ _ ty_strs rfl (by repeat (first | exact hown7 | refine World.ownsRow.alloc ?_ _ | refine own_drewN ?_ _ | refine World.ownsRow.drew ?_)) rfl (by first | exact row_new' _ (by first | rfl | simp) (by first | omega | (simp; omega)) rfl | exact row_newN _ _ (by first | rfl | simp) (by first | omega | (simp; omega)) rfl | exact row_newD _ (by first | rfl | simp) (by first | omega | (simp; omega)) rfl) rfl rfl (by first | omega | decide) (by first | omega | decide) (by first | omega | (simp; omega)) ?_))
      intro A5 c5 w5 hown5 hg5 _;have HO5 : Hid (w5.ownsRow (V.heap.size + 1) 9 1 (.slice A5 (l ++ [x]).length c5) (l ++ [x]).length (strs (l ++ [x]))):=Lib.hid (by simpa [strs,encStr] using hown5);have hown8:=hown7.alloc (.cells #[.string ⟨x.toArray⟩] 9);have hrg5:=(hrg2.kept (World.grownBy_alloc W7 (.cells #[.string ⟨x.toArray⟩] 9) none) (by simp) (by simp)).kept hg5 (fun e => by have:=(hown8.lt mb e.symm).1; omega) (fun e => by have:=(hown8.lt _ e.symm).1; omega);have hb8:=(hb7.alloc hb7.size (.cells #[.string ⟨x.toArray⟩] 9)).grown hg5 (hb7.alloc hb7.size (.cells #[.string ⟨x.toArray⟩] 9)).size (fun q hq => by have:=(hown8.lt q hq).1; omega)
      have hbi8 : V.heap.size + 1 ≤ w5.heap.size:=by have:=hg5.size; simp at this; omega
      clear hown7 hown5 hown8 hg5 hrg2 hb7 hbi7;go_wp2_with fail;go_roundw
      case rel => exact ⟨_,cnt2,A5,c5,l ++ [x],hrg5,by simp,HO5.out,Lib.hid ⟨HXK.out.2.2.2,HXK.out.2.2.1,HXK.out.2.1,HLF2.out⟩,hb8,hbi8⟩
      case measure => rw [hrg5.left_eq]; exact HLT.out
end Go.Proofs.YtjggbpchmbdocaaGreatDoor
