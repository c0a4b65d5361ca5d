/- Texts of this seat, laid together: WkW. -/
import Derived.Test.YtpialnjfdbfkdaaGreatDoorBs37
import Derived.Test.YtpialnjfdbfkdaaGreatDoorBs18
/- The walk of Walk. -/
namespace Go.Proofs.YtpialnjfdbfkdaaGreatDoor
set_option linter.unusedVariables false
set_option linter.unusedSimpArgs false
open Go.RowKit

theorem res_walk (tmps : Array Value) (w : World) (g : Nat) (a b u v : Value) (ka : List UInt8) (B : Option Addr) (n c : Nat) (ha : a = .string ⟨ka.toArray⟩) (hb : b = .slice B n c) (hx : tmps.getD 6 undef = .pointer (some ⟨g,0,none⟩)) (hu : tmps.getD 7 undef = u) (hv : tmps.getD 8 undef = v) (f0 : w.cell? ⟨g,0,none⟩ = some a) (f1 : w.cell? ⟨g,1,none⟩ = some b) :
  (results Tryz.f12 tmps).run Tryz.prog w = .ok (.tuple #[.agg #[a,b],u,v]) w:=by
 have e : Tryz.f12.results = #[.cell 6 34,.tmp 7,.tmp 8]:=by kernel_rfl
 have hx' : tmps[6]?.getD undef = .pointer (some ⟨g,0,none⟩):=by simpa using hx
 have hu' : tmps[7]?.getD undef = u:=by simpa using hu
 have hv' : tmps[8]?.getD undef = v:=by simpa using hv
 subst ha hb
 simp [results,e,hx',hu',hv',go_sem,f0,f1]
theorem quietW {P : Program} {f : FuncId} {args : Array Value} {w : World} {n : Nat} {v : Value} (h : Calls P f args (w.drewN n) fun e w' => e = .returned v ∧ w.drewN n = w') : Calls P f args (w.drewN n) fun e w'' => e = .returned v ∧ ∃ m,w'' = w.drewN m :=
 h.mono fun _ _ ⟨he,hm⟩ => ⟨he,n,hm.symm⟩
theorem walkE_bad {rs : List RoomE} {ds : List DoorE} {st gl : List UInt8} {tr l : List (List UInt8)} {te : Int} (h : te = tricksE rs ds st gl tr) (h0 : te ≠ 0) : walkE rs ds st gl tr l = wkBad te:=by
 unfold walkE; rw [← h,if_pos h0]
theorem walkE_ok {rs : List RoomE} {ds : List DoorE} {st gl : List UInt8} {tr l : List (List UInt8)} {te : Int} (h : te = tricksE rs ds st gl tr) (h0 : te = 0) : walkE rs ds st gl tr l = walkF rs ds st tr l:=by
 unfold walkE; rw [← h,if_neg (fun e => e h0)]
set_option maxHeartbeats 8000000 in
set_option maxRecDepth 100000 in
theorem walkO_any (lo ca cd lo2 c2 lo3 c3 : Nat) (A : Option Addr) (rs : List RoomE) (D : Option Addr) (ds : List DoorE) (st gl : List UInt8) (TR : Option Addr) (tr : List (List UInt8)) (LA : Option Addr) (l : List (List UInt8)) (w : World) (hA : MapW w lo A rs D ds) (hr : Row w lo2 1 TR tr.length (strs tr)) (hrl : tr.length ≤ 1000000000) (hx : Row w lo3 1 LA l.length (strs l)) (hxl : l.length ≤ 1000000000) :
  Calls Tryz.prog 12 #[mapV A rs ca D ds cd st gl,.slice TR tr.length c2,.slice LA l.length c3] w (WaPostO w (walkE rs ds st gl tr l)):=by
 have hC : McC w (w.alloc (.cells #[.slice A rs.length ca,.slice D ds.length cd,.string ⟨st.toArray⟩,.string ⟨gl.toArray⟩] 29)) w.heap.size lo A rs ca D ds cd st gl:=⟨hA.alloc _,Blk.new _ _ _,(Below.refl _ w).alloc (Nat.le_refl _) _⟩
 replace hC:=hC.alloc (.cells #[.string ⟨#[]⟩,.slice none 0 0] 34)
 have hP : Blk ((w.alloc (.cells #[.slice A rs.length ca,.slice D ds.length cd,.string ⟨st.toArray⟩,.string ⟨gl.toArray⟩] 29)).alloc (.cells #[.string ⟨#[]⟩,.slice none 0 0] 34)) (w.heap.size + 1) 34 #[.string ⟨#[]⟩,.slice none 0 0]:=Blk.at_ _ (by simp)
 have HTR:=Lib.hid hr
 have HLX:=Lib.hid hx
 have HRW : Hid (walkE rs ds st gl tr l = walkE rs ds st gl tr l):=Lib.hid rfl
 clear hA hr hx
 obtain ⟨R,hR⟩ : ∃ R,R = walkE rs ds st gl tr l:=⟨_,rfl⟩
 rw [← hR]
 have HR:=Lib.hid hR
 clear hR HRW
 unfold mapV
 simp only [encStr]
 go_enter Tryz.func12,Tryz.ntmps12
 go_wp2_with fail
 generalize ((w.alloc (.cells #[.slice A rs.length ca,.slice D ds.length cd,.string ⟨st.toArray⟩,.string ⟨gl.toArray⟩] 29)).alloc (.cells #[.string ⟨#[]⟩,.slice none 0 0] 34)) = w0 at *
 have hct:=checkTricks_any lo ca cd A rs D ds st gl lo2 c2 TR tr w0 hC.m (HTR.out.below hC.b) hrl
 unfold mapV at hct
 simp only [encStr] at hct
 refine hct.mono ?_
 rintro e w1 ⟨rfl,hb1⟩
 replace hC:=hC.below hb1
 replace hP:=hP.below hb1
 clear hb1 hct
 obtain ⟨te,hte⟩ : ∃ te,te = tricksE rs ds st gl tr:=⟨_,rfl⟩
 rw [← hte]
 by_cases h0 : te = 0
 ·have HF : Hid (R = walkF rs ds st tr l):=Lib.hid (by rw [HR.out]; exact walkE_ok hte h0)
  have HRI:=Lib.hid (right_of (tricks_right (hte.symm.trans h0)))
  have d0 : (te != 0) = false:=by rw [h0]; rfl
  clear h0 hte HR
  by_cases hbig : 500 < l.length
  ·have HV : Hid (R = wkBad 2):=Lib.hid (by rw [HF.out]; unfold walkF; rw [if_pos hbig])
   obtain ⟨z0,z1⟩:=hP.two_
   have f0:=hP.thaw 0
   have f1:=hP.thaw 1
   have hz6:=(hP.poke 0 (.string ⟨#[]⟩)).poke 1 (.slice none 0 0)
   have hb6 : Below w.heap.size w ((w1.setCell ⟨w.heap.size + 1,0,none⟩ (.string ⟨#[]⟩)).setCell ⟨w.heap.size + 1,1,none⟩ (.slice none 0 0)):=Below.setCell (Below.setCell hC.b (by simp) _) (by simp) _
   go_wp2_with fail
   refine bodyPost_ret (res_walk _ _ (w.heap.size + 1) _ _ _ _ [] none 0 0 rfl rfl rfl rfl rfl (hz6.cell 0) (hz6.cell 1)) rfl ?_
   exact WaPostO.bad HV.out hb6
  ·have HF2 : Hid (R = walkS rs ds tr l st (onceT (givesOf rs st)) 0):=Lib.hid (by rw [HF.out]; unfold walkF; rw [if_neg hbig])
   clear HF
   obtain ⟨T,hT⟩ : ∃ T,onceT (allT rs ds) = T:=⟨_,rfl⟩
   have hfew : T.length ≤ 10:=by rw [← hT]; exact HRI.out.few
   have HTU : Hid (T.Pairwise (· < ·)):=Lib.hid (by rw [← hT]; exact (onceT_spec _).1)
   have HT:=Lib.hid hT
   clear hT
   go_wp2_with fail
   refine (newWorld_any w.heap.size lo ca cd lo2 c2 A rs D ds st gl T TR tr [] _ hC.m hC.bl HRI.out HT.out (HTR.out.below hC.b) hrl).mono ?_
   rintro e w2 ⟨q,rfl,hW2,hq2,hb2⟩
   replace hC:=hC.below hb2
   replace hP:=hP.below hb2
   obtain ⟨gb,goff,hga,-,hgc⟩:=hW2.giveI HRI.out.rup HRI.out.st
   have hw5:=hW2.cells.2.2.2.2.2.1
   rw [roomI_mem HRI.out.st] at hw5
   have hw2:=hW2.cells.2.2.1
   rw [hga] at hw2
   have hrl1 : rs.length ≤ 100:=HRI.out.rl
   have hbg:=beginW_any q.p gb goff q.gc rs.length (ixR rs st) _ w2 hw5 hw2 hgc (ixR_lt HRI.out.st) (by omega)
   have hpl:=hP.lt
   have HW2:=Lib.hid hW2
   have HC2:=Lib.hid hC
   clear hb2 hw5 hw2 hgc hga hq2
   go_wp2_with fail
   refine hbg.mono ?_
   rintro e w3 ⟨rfl,hb3⟩
   clear hbg
   have HW:=Lib.hid (HW2.out.below hb3)
   have HC:=Lib.hid (HC2.out.below hb3)
   have HP3:=Lib.hid (hP.below hb3)
   have hwz:=HC.out.b.size
   clear hP hC hW2 hb3 HW2 HC2 hpl
   have HTB : Hid (bitsT T (givesOf rs st) = bitsT T (onceT (givesOf rs st))):=Lib.hid (bitsT_once _ _).symm
   rw [HTB.out]
   have HOK0 : Hid (ThOk T (onceT (givesOf rs st))):=Lib.hid (by rw [← HT.out]; exact begin_ok st)
   have hsb : Blk (w3.alloc (.cells #[.int .i64 (ixR rs st : Int),.int .i64 (bitsT T (onceT (givesOf rs st))),.int .i64 0] 105)) w3.heap.size 105 #[.int .i64 (ixR rs st : Int),.int .i64 (bitsT T (onceT (givesOf rs st))),.int .i64 0]:=Blk.new _ _ _
   have hbr : Below w3.heap.size w3 (w3.alloc (.cells #[.int .i64 (ixR rs st : Int),.int .i64 (bitsT T (onceT (givesOf rs st))),.int .i64 0] 105)):=(Below.refl _ _).alloc (Nat.le_refl _) _
   go_wp2_with fail
   generalize w3.alloc (.cells #[.int .i64 (ixR rs st : Int),.int .i64 (bitsT T (onceT (givesOf rs st))),.int .i64 0] 105) = w4 at *
   go_loopw [12,36] (fun tv i wr => ∃ (k : Nat) (room : List UInt8) (th : List (List UInt8)) (t : Int),k ≤ l.length ∧ i = .int .i64 k ∧ tv = .int .i64 t ∧ Blk wr w3.heap.size 105 #[.int .i64 (ixR rs room : Int),.int .i64 (bitsT T th),.int .i64 0] ∧ Hid (room ∈ rs.map RoomE.key) ∧ Hid (ThOk T th) ∧ Hid (R = walkS rs ds tr (l.drop k) room th t) ∧ 0 ≤ t ∧ t ≤ k * 864000000 ∧ Below w3.heap.size w3 wr) (fun _ i _ => l.length - (intOf i).toNat)
   case atStart => exact ⟨0,st,_,0,Nat.zero_le _,rfl,rfl,hsb,Lib.hid HRI.out.st,HOK0,Lib.hid HF2.out,Int.le_refl _,by simp,hbr⟩
   case round =>
    clear hsb hbr
    obtain ⟨k,room,th,t,hk,rfl,rfl,hS,HRM,HOK,HWS,ht0,ht1,hbr⟩:=hrel
    have HWr : Hid (WorW wr w1.heap.size w.heap.size q T rs ds tr [] st gl):=Lib.hid (HW.out.below hbr)
    have hCr:=HC.out.below hbr
    have hPr:=HP3.out.below hbr
    have zs:=hS.lt
    have zr:=hbr.size
    have hpl:=HP3.out.lt
    by_cases hkn : k < l.length
    ·obtain ⟨b,off,rfl,hbs,hcell⟩:=strs_at (HLX.out.below hCr.b) hkn
     have y0:=hcell k hkn
     have HDR:=Lib.hid (drop_at l hkn)
     have hk500 : k ≤ 500:=by omega
     clear hcell
     generalize l[k] = key at *
     simp only [encStr] at y0
     obtain ⟨x0,x1,x2,x3⟩:=hCr.cells
     go_wp2_with fail
     have hse:=searchD_any lo cd A rs D ds key wr hCr.m HRI.out.dup
     unfold encStr at hse
     refine hse.mono ?_
     rintro e w5 ⟨r,fb,rfl,hf,hb5⟩
     clear hse x0 x1 x2 x3 y0
     replace hbr:=hbr.trans (hb5.mono zr)
     replace hS:=hS.below hb5
     replace hPr:=hPr.below hb5
     replace hCr:=hCr.below hb5
     replace HWr:=Lib.hid (HWr.out.below hb5)
     clear hb5
     obtain ⟨z0,z1⟩:=hPr.two_
     have f0:=hPr.thaw 0
     have f1:=hPr.thaw 1
     have hz6:=(hPr.poke 0 (.string ⟨#[]⟩)).poke 1 (.slice none 0 0)
     have hb6 : Below w.heap.size w ((w5.setCell ⟨w.heap.size + 1,0,none⟩ (.string ⟨#[]⟩)).setCell ⟨w.heap.size + 1,1,none⟩ (.slice none 0 0)):=Below.setCell (Below.setCell hCr.b (by simp) _) (by simp) _
     cases fb with
     | false =>
      have HV : Hid (R = wkBad 8):=Lib.hid (by rw [HWS.out,HDR.out]; exact walk_none (hf.2.2 rfl))
      go_wp2_with fail
      refine bodyPost_ret (res_walk _ _ (w.heap.size + 1) _ _ _ _ [] none 0 0 rfl rfl rfl rfl rfl (hz6.cell 0) (hz6.cell 1)) rfl ?_
      exact WaPostO.bad HV.out hb6
     | true =>
      obtain ⟨hrd',hke⟩:=hf.2.1 rfl
      have hrd : r < ds.length:=by simpa using hrd'
      have hke2 : ds[r].key = key:=by simpa using hke
      have HWK:=Lib.hid (walk_some (rs:=rs) (tr:=tr) (ks:=l.drop (k + 1)) (room:=room) (th:=th) (t:=t) HRI.out.dup hrd)
      rw [hke2] at HWK
      have HMEM:=Lib.hid (List.getElem_mem hrd)
      obtain ⟨bd,doff,hda,-,e0,e1,e2,e3,e4⟩:=HWr.out.doorI HRI.out hrd
      have HBD : Hid (bd < w3.heap.size):=Lib.hid (by
       obtain ⟨b',o',h',hb',-⟩:=HW.out.doorI HRI.out hrd
       rw [hda] at h'
       injection h' with h'
       injection h' with h1
       omega)
      have HOM:=Lib.hid (out_mem (rs:=rs) (ds:=ds) (tr:=tr) (wo:=[]) hrd (r:=ixR rs room))
      clear hf hrd' hke hke2
      have hrd500 : ds.length ≤ 500:=HRI.out.dl
      have hr0 : (0 : Int) ≤ (r : Int):=by omega
      have hr1 : (r : Int) < (ds.length : Int):=by omega
      generalize ds[r] = d at *
      have hw3:=HWr.out.cells.2.2.2.1
      rw [hda] at hw3
      have hst:=hS.w3
      have HSRC:=Lib.hid (HRI.out.src _ HMEM.out)
      have HDST:=Lib.hid (HRI.out.dst _ HMEM.out)
      have HRLT:=Lib.hid (ixR_lt HRM.out)
      obtain ⟨cf,hcf⟩ : ∃ cf : Bool,cf = ((ixR rs d.src : Int) != (ixR rs room : Int)):=⟨_,rfl⟩
      have hcf2 : ((ixR rs d.src : Int) != (ixR rs room : Int)) = cf:=hcf.symm
      have HCF : Hid (cf = true ↔ room ≠ d.src):=Lib.hid (by
       rw [hcf,bne_iff_ne]
       constructor
       ·intro h e; exact h (by rw [e])
       ·intro h e; exact h (ixR_inj HRM.out HSRC.out (by omega)))
      clear hcf
      go_upto_region 14 with (fail)
      go_cut [51] from 52 to 63 (fun v wx => v = .bool cf ∧ ∃ n,wx = w5.drewN n)
      case first =>
       obtain ⟨s0,s1,s2⟩:=hst
       go_quiet (fail)
       go_wp2_with fail
       go_meet
       exact ⟨by first | rfl | rw [hcf2],_,rfl⟩
      case rest =>
      obtain ⟨rfl,n5,rfl⟩:=hcut
      have hz7:=hz6
      cases cf with
      | true =>
       have HV : Hid (R = wkBad 3):=Lib.hid (by
        have hg : goE tr room th d = 3:=if_pos (HCF.out.1 rfl)
        rw [HWS.out,HDR.out,HWK.out,hg,if_pos (by decide)])
       go_wp2_with fail
       refine bodyPost_ret (res_walk _ _ (w.heap.size + 1) _ _ _ _ [] none 0 0 rfl rfl rfl rfl rfl (hz6.cell 0) (hz6.cell 1)) rfl ?_
       exact WaPostO.bad HV.out (below_drewN' hb6 n5)
      | false =>
       have HEQ : Hid (room = d.src):=Lib.hid (Classical.byContradiction fun h => by have:=HCF.out.2 h; cases this)
       obtain ⟨B5,c5,ho5,hrow5⟩:=HWr.out.out _ HRLT.out
       have HOM2 : Hid ((r : Int) ∈ outN rs ds tr [] (ixR rs room) ↔ okD tr [] d = true):=Lib.hid (HOM.out (by rw [HEQ.out]; exact roomI_mem HSRC.out))
       have holen : (outN rs ds tr [] (ixR rs room)).length ≤ 1000000000:=by
        have : (outN rs ds tr [] (ixR rs room)).length ≤ ds.length:=by unfold outN; rw [List.length_map]; exact Nat.le_trans (List.length_filter_le _ _) (by simp)
        omega
       have hw4:=HWr.out.cells.2.2.2.2.1
       have hix0 : (0 : Int) ≤ (ixR rs room : Int):=by omega
       have hix1 : (ixR rs room : Int) < (rs.length : Int):=by have:=HRLT.out; omega
       obtain ⟨oc,hoc⟩ : ∃ oc : Bool,oc = decide ((r : Int) ∈ outN rs ds tr [] (ixR rs room)):=⟨_,rfl⟩
       have HCON : Hid (∀ W,Below w5.heap.size w5 W → Calls Tryz.prog 48 #[.slice B5 (outN rs ds tr [] (ixR rs room)).length c5,.int .i64 (r : Int)] W fun e w' => e = .returned (.bool oc) ∧ W = w'):=Lib.hid (fun W hW => by
        have:=contains_any B5 c5 w1.heap.size (outN rs ds tr [] (ixR rs room)) (r : Int) W (hrow5.below hW) holen
        rw [← hoc] at this
        exact this)
       have HOC : Hid (oc = true ↔ ¬ (d.trick ≠ [] ∧ d.trick ∉ tr)):=Lib.hid (by rw [hoc,decide_eq_true_eq,HOM2.out]; exact okD_none (HRI.out.dkey _ HMEM.out))
       clear hoc
       generalize (outN rs ds tr [] (ixR rs room)).length = on at *
       obtain ⟨w6,hw6⟩ : ∃ w6,w6 = w5.drewN n5:=⟨_,rfl⟩
       have hE6 : Below w5.heap.size w5 w6:=by rw [hw6]; exact below_drewN' (Below.refl _ _) _
       have zs5:=hS.lt
       replace hbr : Below w3.heap.size w3 w6:=hbr.trans (hE6.mono hbr.size)
       replace hS:=hS.below hE6
       replace hPr:=hPr.below hE6
       replace hCr:=hCr.below hE6
       replace HWr:=Lib.hid (HWr.out.below hE6)
       have e0' : w6.cell? ⟨bd,doff + r * 5,none⟩ = some (.int .i64 (ixR rs d.src : Int)):=by rw [hw6]; exact e0
       have e1' : w6.cell? ⟨bd,doff + r * 5 + 1,none⟩ = some (.int .i64 (ixR rs d.dst : Int)):=by rw [hw6]; exact e1
       have e2' : w6.cell? ⟨bd,doff + r * 5 + 2,none⟩ = some (.int .i64 d.time):=by rw [hw6]; exact e2
       have e3' : w6.cell? ⟨bd,doff + r * 5 + 3,none⟩ = some (.int .i64 (bitsT T d.needs)):=by rw [hw6]; exact e3
       have e4' : w6.cell? ⟨bd,doff + r * 5 + 4,none⟩ = some (.int .i64 (bitsT T d.takes)):=by rw [hw6]; exact e4
       have hw3' : w6.cell? ⟨q.p,3,none⟩ = some (.slice (some ⟨bd,doff,none⟩) ds.length q.dc):=by rw [hw6]; exact hw3
       have hw4' : w6.cell? ⟨q.p,4,none⟩ = some (.slice (some ⟨q.g,0,none⟩) rs.length q.oc):=by rw [hw6]; exact hw4
       have ho5' : w6.cell? ⟨q.g,ixR rs room,none⟩ = some (.slice B5 on c5):=by rw [hw6]; exact ho5
       have HE6:=Lib.hid hE6
       have hz6' : Blk ((w6.setCell ⟨w.heap.size + 1,0,none⟩ (.string ⟨#[]⟩)).setCell ⟨w.heap.size + 1,1,none⟩ (.slice none 0 0)) (w.heap.size + 1) 34 _:=(hPr.poke 0 (.string ⟨#[]⟩)).poke 1 (.slice none 0 0)
       have hb6' : Below w.heap.size w ((w6.setCell ⟨w.heap.size + 1,0,none⟩ (.string ⟨#[]⟩)).setCell ⟨w.heap.size + 1,1,none⟩ (.slice none 0 0)):=Below.setCell (Below.setCell hCr.b (by simp) _) (by simp) _
       rw [← hw6]
       have hst:=hS.w3
       clear hw6 hE6 hw3 hw4 ho5 e0 e1 e2 e3 e4 hz6 hb6 z0 z1 f0 f1 hrow5 holen hz7
       obtain ⟨z0,z1⟩:=hPr.two_
       have f0:=hPr.thaw 0
       have f1:=hPr.thaw 1
       go_upto_region 16 with (fail)
       go_cut [64] from 65 to 76 (fun v wx => v = .bool (!oc) ∧ ∃ n,wx = w6.drewN n)
       case first =>
        obtain ⟨s0,s1,s2⟩:=hst
        go_quiet ((go_at_call 48; exact quietW (HCON.out _ (below_drewN' HE6.out _))))
        go_wp2_with fail
        go_meet
        exact ⟨rfl,_,rfl⟩

       case rest =>
       obtain ⟨rfl,n6,rfl⟩:=hcut
       cases oc with
       | false =>
        have HV : Hid (R = wkBad 16):=Lib.hid (by
         have hg : goE tr room th d = 16:=by
          unfold goE
          rw [if_neg (fun h => h HEQ.out),if_pos (Classical.byContradiction fun h => by have:=HOC.out.2 h; cases this)]
         rw [HWS.out,HDR.out,HWK.out,hg,if_pos (by decide)])
        go_wp2_with fail
        refine bodyPost_ret (res_walk _ _ (w.heap.size + 1) _ _ _ _ [] none 0 0 rfl rfl rfl rfl rfl (hz6'.cell 0) (hz6'.cell 1)) rfl ?_
        exact WaPostO.bad HV.out (below_drewN' hb6' n6)
       | true =>
        have HTK : Hid (¬ (d.trick ≠ [] ∧ d.trick ∉ tr)):=Lib.hid (HOC.out.1 rfl)
        have HSUB : Hid (∀ x ∈ d.needs,x ∈ T):=Lib.hid (fun x hx => by rw [← HT.out]; exact ((onceT_spec _).2 x).2 (List.mem_append_right _ (List.mem_flatMap.2 ⟨d,HMEM.out,List.mem_append_left _ hx⟩)))
        have HBN:=Lib.hid (bits_needs (th:=th) hfew HSUB.out)
        obtain ⟨okb,hokb⟩ : ∃ okb : Bool,okb = decide (∀ s ∈ d.needs,s ∈ th):=⟨_,rfl⟩
        have HOB:=Lib.hid hokb
        clear hokb
        obtain ⟨xr,hxr⟩ : ∃ xr : Nat,xr = if okb = true then ixR rs d.dst else ixR rs room:=⟨_,rfl⟩
        obtain ⟨xb,hxb⟩ : ∃ xb : Nat,xb = if okb = true then bitsT T (thru rs th d) else bitsT T th:=⟨_,rfl⟩
        have HXR:=Lib.hid hxr
        have HXB:=Lib.hid hxb
        clear hxr hxb
        have zs6:=hS.lt
        have zq6:=HWr.out.bl.lt
        obtain ⟨s0,s1,s2⟩:=hst
        obtain ⟨w7,hw7⟩ : ∃ w7,w7 = w6.drewN n6:=⟨_,rfl⟩
        rw [← hw7]
        have hE7 : Below w6.heap.size w6 w7:=by rw [hw7]; exact below_drewN' (Below.refl _ _) _
        have zd6:=World.block_lt_of_cell? w6 _ e0'
        have hSC : (fun w' : World => w'.cell? ⟨q.p,3,none⟩ = some (.slice (some ⟨bd,doff,none⟩) ds.length q.dc) ∧ w'.cell? ⟨w3.heap.size,0,none⟩ = some (.int .i64 (ixR rs room : Int)) ∧ w'.cell? ⟨w3.heap.size,1,none⟩ = some (.int .i64 (bitsT T th)) ∧ w'.cell? ⟨w3.heap.size,2,none⟩ = some (.int .i64 0) ∧ w'.cell? ⟨bd,doff + r * 5,none⟩ = some (.int .i64 (ixR rs d.src : Int)) ∧ w'.cell? ⟨bd,doff + r * 5 + 1,none⟩ = some (.int .i64 (ixR rs d.dst : Int)) ∧ w'.cell? ⟨bd,doff + r * 5 + 2,none⟩ = some (.int .i64 d.time) ∧ w'.cell? ⟨bd,doff + r * 5 + 3,none⟩ = some (.int .i64 (bitsT T d.needs)) ∧ w'.cell? ⟨bd,doff + r * 5 + 4,none⟩ = some (.int .i64 (bitsT T d.takes))) w7:=by
         rw [hw7]; exact ⟨hw3',s0,s1,s2,e0',e1',e2',e3',e4'⟩
        have HSC : Hid (∀ W,Below w7.heap.size w7 W → (fun w' : World => w'.cell? ⟨q.p,3,none⟩ = some (.slice (some ⟨bd,doff,none⟩) ds.length q.dc) ∧ w'.cell? ⟨w3.heap.size,0,none⟩ = some (.int .i64 (ixR rs room : Int)) ∧ w'.cell? ⟨w3.heap.size,1,none⟩ = some (.int .i64 (bitsT T th)) ∧ w'.cell? ⟨w3.heap.size,2,none⟩ = some (.int .i64 0) ∧ w'.cell? ⟨bd,doff + r * 5,none⟩ = some (.int .i64 (ixR rs d.src : Int)) ∧ w'.cell? ⟨bd,doff + r * 5 + 1,none⟩ = some (.int .i64 (ixR rs d.dst : Int)) ∧ w'.cell? ⟨bd,doff + r * 5 + 2,none⟩ = some (.int .i64 d.time) ∧ w'.cell? ⟨bd,doff + r * 5 + 3,none⟩ = some (.int .i64 (bitsT T d.needs)) ∧ w'.cell? ⟨bd,doff + r * 5 + 4,none⟩ = some (.int .i64 (bitsT T d.takes))) W):=Lib.hid (fun W hb => by
         have z7:=hE7.size
         obtain ⟨a1,a2,a3,a4,a5,a6,a7,a8,a9⟩:=hSC
         simp only at zd6
         exact ⟨(hb.cell (p:=⟨q.p,3,none⟩) (show q.p < _ by omega)).trans a1,(hb.cell (p:=⟨w3.heap.size,0,none⟩) (show w3.heap.size < _ by omega)).trans a2,(hb.cell (p:=⟨w3.heap.size,1,none⟩) (show w3.heap.size < _ by omega)).trans a3,(hb.cell (p:=⟨w3.heap.size,2,none⟩) (show w3.heap.size < _ by omega)).trans a4,(hb.cell (p:=⟨bd,doff + r * 5,none⟩) (show bd < _ by omega)).trans a5,(hb.cell (p:=⟨bd,doff + r * 5 + 1,none⟩) (show bd < _ by omega)).trans a6,(hb.cell (p:=⟨bd,doff + r * 5 + 2,none⟩) (show bd < _ by omega)).trans a7,(hb.cell (p:=⟨bd,doff + r * 5 + 3,none⟩) (show bd < _ by omega)).trans a8,(hb.cell (p:=⟨bd,doff + r * 5 + 4,none⟩) (show bd < _ by omega)).trans a9⟩)
        have hbr7 : Below w3.heap.size w3 w7:=hbr.trans (hE7.mono hbr.size)
        have HWr7:=Lib.hid (HWr.out.below hE7)
        have hS7:=hS.below hE7
        have HS8 : Hid (∀ W,Below w7.heap.size w7 W → Blk W w3.heap.size 105 #[.int .i64 (ixR rs room : Int),.int .i64 (bitsT T th),.int .i64 0]):=Lib.hid (fun W hb => hS7.below hb)
        clear hw7 hE7 hw3' hw4' ho5' e0' e1' e2' e3' e4' s0 s1 s2 z0 z1 f0 f1 hz6' hb6' hbr HWr hS hPr hCr hS7 zs6 zq6
        go_upto_region 18 with (fail)
        go_cut [17,18] from 77 to 90 (fun v u wx => ∃ nb,v = .pointer (some ⟨nb,0,none⟩) ∧ u = .bool okb ∧ w7.heap.size ≤ nb ∧ Below w7.heap.size w7 wx ∧ Blk wx nb 105 #[.int .i64 (xr : Int),.int .i64 (xb : Int),.int .i64 0])
        case first =>
         cases okb with
         | true =>
          have HNZ : Hid ((bits .andNot .i64 (bitsT T d.needs : Int) (bitsT T th : Int) != 0) = false):=Lib.hid (by
           have:=HBN.out
           have h2:=HOB.out
           rw [bne_eq_false_iff_eq]; exact this.2 (of_decide_eq_true h2.symm))
          have hb9 : Below w7.heap.size w7 w7.drew:=below_drewN' (Below.refl _ _) 1
          have hsc:=HSC.out _ hb9
          refine wp_region_held_drew (S:=(fun w' => w'.cell? ⟨q.p,3,none⟩ = some (.slice (some ⟨bd,doff,none⟩) ds.length q.dc) ∧ w'.cell? ⟨w3.heap.size,0,none⟩ = some (.int .i64 (ixR rs room : Int)) ∧ w'.cell? ⟨w3.heap.size,1,none⟩ = some (.int .i64 (bitsT T th)) ∧ w'.cell? ⟨w3.heap.size,2,none⟩ = some (.int .i64 0) ∧ w'.cell? ⟨bd,doff + r * 5,none⟩ = some (.int .i64 (ixR rs d.src : Int)) ∧ w'.cell? ⟨bd,doff + r * 5 + 1,none⟩ = some (.int .i64 (ixR rs d.dst : Int)) ∧ w'.cell? ⟨bd,doff + r * 5 + 2,none⟩ = some (.int .i64 d.time) ∧ w'.cell? ⟨bd,doff + r * 5 + 3,none⟩ = some (.int .i64 (bitsT T d.needs)) ∧ w'.cell? ⟨bd,doff + r * 5 + 4,none⟩ = some (.int .i64 (bitsT T d.takes)))) (by kernel_rfl) (hsc) (fun hHeld => ?_)
          (refine QT (i:=0) (v:=?_) (by (simp only [Q0,Q2]; rfl)) (by kernel_rfl) (by exact fun _ _ _ h => h) (by rfl) ?_ (by assumption) ?_; (rotate_left 1; (intro w hSw; (try dsimp only at hSw); go_simp); (try with_reducible rfl)); (try simp only [Act.put,Q3,Q4,Q5]))
          (refine QT (i:=1) (v:=?_) (by (simp only [Q0,Q1,Q2]; rfl)) (by kernel_rfl) (by exact fun _ _ _ h => h) (by rfl) ?_ (by assumption) ?_; (rotate_left 1; (intro w hSw; (try dsimp only at hSw); go_simp); (try with_reducible rfl)); (try simp only [Act.put,Q3,Q4,Q5]))
          (refine QT (i:=2) (v:=?_) (by (simp only [Q0,Q1,Q2]; rfl)) (by kernel_rfl) (by exact fun _ _ _ h => h) (by rfl) ?_ (by assumption) ?_; (rotate_left 1; (intro w hSw; (try dsimp only at hSw); go_simp); (try with_reducible rfl)); (try simp only [Act.put,Q3,Q4,Q5]))
          (refine QT (i:=3) (v:=?_) (by (simp only [Q0,Q1,Q2]; rfl)) (by kernel_rfl) (by exact fun _ _ _ h => h) (by rfl) ?_ (by assumption) ?_; (rotate_left 1; (intro w hSw; (try dsimp only at hSw); go_simp); (try with_reducible rfl)); (try simp only [Act.put,Q3,Q4,Q5]))
          (refine QT (i:=4) (v:=?_) (by (simp only [Q0,Q1,Q2]; rfl)) (by kernel_rfl) (by exact fun _ _ _ h => h) (by rfl) ?_ (by assumption) ?_; (rotate_left 1; (intro w hSw; (try dsimp only at hSw); go_simp); (try with_reducible rfl)); (try simp only [Act.put,Q3,Q4,Q5]))
          (refine QT (i:=5) (v:=?_) (by (simp only [Q0,Q1,Q2]; rfl)) (by kernel_rfl) (by exact fun _ _ _ h => h) (by rfl) ?_ (by assumption) ?_; (rotate_left 1; (intro w hSw; (try dsimp only at hSw); go_simp); (try with_reducible rfl)); (try simp only [Act.put,Q3,Q4,Q5]))
          (refine QT (i:=6) (v:=?_) (by (simp only [Q0,Q1,Q2]; rfl)) (by kernel_rfl) (by exact fun _ _ _ h => h) (by rfl) ?_ (by assumption) ?_; (rotate_left 1; (intro w hSw; (try dsimp only at hSw); go_simp); (try with_reducible rfl)); (try simp only [Act.put,Q3,Q4,Q5]))
          (refine QT (i:=7) (v:=?_) (by (simp only [Q0,Q1,Q2]; rfl)) (by kernel_rfl) (by exact fun _ _ _ h => h) (by rfl) ?_ (by assumption) ?_; (rotate_left 1; (intro w hSw; (try dsimp only at hSw); go_simp); (try with_reducible rfl)); (try simp only [Act.put,Q3,Q4,Q5]))
          (refine QT (i:=8) (v:=?_) (by (simp only [Q0,Q1,Q2]; rfl)) (by kernel_rfl) (by exact fun _ _ _ h => h) (by rfl) ?_ (by assumption) ?_; (rotate_left 1; (intro w hSw; (try dsimp only at hSw); go_simp); (try with_reducible rfl)); (try simp only [Act.put,Q3,Q4,Q5]))
          refine wpAnyH_ready (rs:=[9,13]) (by kernel_rfl) (by simp) ?_
          refine AllReadyH.cons rfl (fun K hK => ?_) (AllReadyH.cons rfl (fun K hK => ?_) AllReadyH.nil)
          case refine_1 =>
           go_simp
           go_at_call 49
           have hwk:=HWr7.out.below hb9
           obtain ⟨gb,goff,hga,-,hgc⟩:=hwk.giveI HRI.out.rup HDST.out
           have hw2:=hwk.cells.2.2.1
           rw [hga] at hw2
           have hrl1:=HRI.out.rl
           have hpa:=pass_yes q.p gb goff q.gc rs.length (ixR rs d.dst) (ixR rs room : Int) (bitsT T th) 0 (ixR rs d.src : Int) d.time (bitsT T d.needs) (bitsT T d.takes) (bitsT T (givesOf rs d.dst)) _ hw2 hgc (ixR_lt HDST.out) (by omega) HNZ.out
           rw [bits_thru hfew rs d] at hpa
           refine hpa.mono ?_
           clear hpa hw2 hgc hga hwk
           rintro e wp ⟨rfl,hb⟩
           replace hb9:=hb9.trans (hb.mono hb9.size)
           have hsc:=HSC.out _ hb9
           go_wp2_with fail
           refine hK.out _ _ (hsc) (fun hHeld => ?_)
           clear hK K
           (try simp only [Act.put,Q3,Q4,Q5])
           (refine QT (i:=10) (v:=?_) (by (simp only [Q0,Q1,Q2]; rfl)) (by kernel_rfl) (by exact fun _ _ _ h => h) (by rfl) ?_ (by assumption) ?_; (rotate_left 1; (intro w hSw; (try dsimp only at hSw); go_simp); (try with_reducible rfl)); (try simp only [Act.put,Q3,Q4,Q5]))
           (refine QT (i:=11) (v:=?_) (by (simp only [Q0,Q1,Q2]; rfl)) (by kernel_rfl) (by exact fun _ _ _ h => h) (by rfl) ?_ (by assumption) ?_; (rotate_left 1; (intro w hSw; (try dsimp only at hSw); go_simp); (try with_reducible rfl)); (try simp only [Act.put,Q3,Q4,Q5]))
           (refine QT (i:=12) (v:=?_) (by (simp only [Q0,Q1,Q2]; rfl)) (by kernel_rfl) (by exact fun _ _ _ h => h) (by rfl) ?_ (by assumption) ?_; (rotate_left 1; (intro w hSw; (try dsimp only at hSw); go_simp); (try with_reducible rfl)); (try simp only [Act.put,Q3,Q4,Q5]))
           refine wpAnyH_ready (rs:=[13]) (by kernel_rfl) (by simp) ?_
           refine AllReadyH.cons rfl (fun K hK => ?_) AllReadyH.nil
           go_simp
           have hq : Blk (wp.alloc (.cells #[.int .i64 0,.int .i64 0,.int .i64 0] 105)) wp.heap.size 105 #[.int .i64 0,.int .i64 0,.int .i64 0]:=Blk.new _ _ _
           have zq:=hb9.size
           have hb0:=hb9
           replace hb9:=hb9.alloc hb9.size (.cells #[.int .i64 0,.int .i64 0,.int .i64 0] 105)
           have hsc:=HSC.out _ hb9
           refine hK.out _ _ (hsc) (fun hHeld => ?_)
           clear hK K
           (try simp only [Act.put,Q3,Q4,Q5])
           refine wpAnyH_ready (rs:=[14]) (by kernel_rfl) (by simp) ?_
           refine AllReadyH.cons rfl (fun K hK => ?_) AllReadyH.nil
           go_simp
           have hq : Blk (wp.alloc (.cells #[.int .i64 (ixR rs d.dst : Int),.int .i64 (bitsT T (thru rs th d)),.int .i64 0] 105)) wp.heap.size 105 #[.int .i64 (ixR rs d.dst : Int),.int .i64 (bitsT T (thru rs th d)),.int .i64 0]:=Blk.new _ _ _
           have hb9:=hb0.alloc hb0.size (.cells #[.int .i64 (ixR rs d.dst : Int),.int .i64 (bitsT T (thru rs th d)),.int .i64 0] 105)
           have hsc:=HSC.out _ hb9
           refine hK.out _ _ (hsc) (fun hHeld => ?_)
           clear hK K
           (try simp only [Act.put,Q3,Q4,Q5])
           (refine QT (i:=15) (v:=?_) (by (simp only [Q0,Q1,Q2]; rfl)) (by kernel_rfl) (by exact fun _ _ _ h => h) (by rfl) ?_ (by assumption) ?_; (rotate_left 1; (intro w hSw; (try dsimp only at hSw); go_simp); (try with_reducible rfl)); (try simp only [Act.put,Q3,Q4,Q5]))
           refine wpAnyH_done (by kernel_rfl) ?_ _
           go_wp2_with fail
           go_meet
           exact ⟨_,rfl,rfl,zq,hb9,by rw [HXR.out,HXB.out]; first | exact hq | simpa using hq⟩
          case refine_2 =>
           go_simp
           have hq : Blk (w7.drew.alloc (.cells #[.int .i64 0,.int .i64 0,.int .i64 0] 105)) w7.drew.heap.size 105 #[.int .i64 0,.int .i64 0,.int .i64 0]:=Blk.new _ _ _
           have zq:=hb9.size
           have hb0:=hb9
           replace hb9:=hb9.alloc hb9.size (.cells #[.int .i64 0,.int .i64 0,.int .i64 0] 105)
           have hsc:=HSC.out _ hb9
           refine hK.out _ _ (hsc) (fun hHeld => ?_)
           clear hK K
           (try simp only [Act.put,Q3,Q4,Q5])
           refine wpAnyH_ready (rs:=[9]) (by kernel_rfl) (by simp) ?_
           refine AllReadyH.cons rfl (fun K hK => ?_) AllReadyH.nil
           go_simp
           go_at_call 49
           have hwk:=HWr7.out.below hb9
           obtain ⟨gb,goff,hga,-,hgc⟩:=hwk.giveI HRI.out.rup HDST.out
           have hw2:=hwk.cells.2.2.1
           rw [hga] at hw2
           have hrl1:=HRI.out.rl
           have hpa:=pass_yes q.p gb goff q.gc rs.length (ixR rs d.dst) (ixR rs room : Int) (bitsT T th) 0 (ixR rs d.src : Int) d.time (bitsT T d.needs) (bitsT T d.takes) (bitsT T (givesOf rs d.dst)) _ hw2 hgc (ixR_lt HDST.out) (by omega) HNZ.out
           rw [bits_thru hfew rs d] at hpa
           refine hpa.mono ?_
           clear hpa hw2 hgc hga hwk
           rintro e wp ⟨rfl,hb⟩
           replace hb9:=hb9.trans (hb.mono hb9.size)
           have hsc:=HSC.out _ hb9
           have hq:=hq.below hb
           go_wp2_with fail
           refine hK.out _ _ (hsc) (fun hHeld => ?_)
           clear hK K
           (try simp only [Act.put,Q3,Q4,Q5])
           (refine QT (i:=10) (v:=?_) (by (simp only [Q0,Q1,Q2]; rfl)) (by kernel_rfl) (by exact fun _ _ _ h => h) (by rfl) ?_ (by assumption) ?_; (rotate_left 1; (intro w hSw; (try dsimp only at hSw); go_simp); (try with_reducible rfl)); (try simp only [Act.put,Q3,Q4,Q5]))
           (refine QT (i:=11) (v:=?_) (by (simp only [Q0,Q1,Q2]; rfl)) (by kernel_rfl) (by exact fun _ _ _ h => h) (by rfl) ?_ (by assumption) ?_; (rotate_left 1; (intro w hSw; (try dsimp only at hSw); go_simp); (try with_reducible rfl)); (try simp only [Act.put,Q3,Q4,Q5]))
           (refine QT (i:=12) (v:=?_) (by (simp only [Q0,Q1,Q2]; rfl)) (by kernel_rfl) (by exact fun _ _ _ h => h) (by rfl) ?_ (by assumption) ?_; (rotate_left 1; (intro w hSw; (try dsimp only at hSw); go_simp); (try with_reducible rfl)); (try simp only [Act.put,Q3,Q4,Q5]))
           refine wpAnyH_ready (rs:=[14]) (by kernel_rfl) (by simp) ?_
           refine AllReadyH.cons rfl (fun K hK => ?_) AllReadyH.nil
           have hq : Blk wp w7.heap.size 105 #[.int .i64 0,.int .i64 0,.int .i64 0]:=hq
           obtain ⟨k0,k1,k2⟩:=hq.w3
           have f0:=hq.thaw 0
           have f1:=hq.thaw 1
           have f2:=hq.thaw 2
           have zqq:=hq.lt
           go_simp
           have hq:=((hq.poke 0 (.int .i64 (ixR rs d.dst : Int))).poke 1 (.int .i64 (bitsT T (thru rs th d)))).poke 2 (.int .i64 0)
           have hb9:=Below.setCell (Below.setCell (Below.setCell hb9 (p:=⟨w7.heap.size,0,none⟩) (Nat.le_refl _) (.int .i64 (ixR rs d.dst : Int))) (p:=⟨w7.heap.size,1,none⟩) (Nat.le_refl _) (.int .i64 (bitsT T (thru rs th d)))) (p:=⟨w7.heap.size,2,none⟩) (Nat.le_refl _) (.int .i64 0)
           have hsc:=HSC.out _ hb9
           refine hK.out _ _ (hsc) (fun hHeld => ?_)
           clear hK K
           (try simp only [Act.put,Q3,Q4,Q5])
           (refine QT (i:=15) (v:=?_) (by (simp only [Q0,Q1,Q2]; rfl)) (by kernel_rfl) (by exact fun _ _ _ h => h) (by rfl) ?_ (by assumption) ?_; (rotate_left 1; (intro w hSw; (try dsimp only at hSw); go_simp); (try with_reducible rfl)); (try simp only [Act.put,Q3,Q4,Q5]))
           refine wpAnyH_done (by kernel_rfl) ?_ _
           go_wp2_with fail
           go_meet
           exact ⟨_,rfl,rfl,zq,hb9,by rw [HXR.out,HXB.out]; first | exact hq | simpa using hq⟩
         | false =>
          have HNZ : Hid ((bits .andNot .i64 (bitsT T d.needs : Int) (bitsT T th : Int) != 0) = true):=Lib.hid (by
           have:=HBN.out
           have h2:=HOB.out
           rw [bne_iff_ne]; exact fun h => of_decide_eq_false h2.symm (this.1 h))
          have hb9 : Below w7.heap.size w7 w7.drew:=below_drewN' (Below.refl _ _) 1
          have hsc:=HSC.out _ hb9
          refine wp_region_held_drew (S:=(fun w' => w'.cell? ⟨q.p,3,none⟩ = some (.slice (some ⟨bd,doff,none⟩) ds.length q.dc) ∧ w'.cell? ⟨w3.heap.size,0,none⟩ = some (.int .i64 (ixR rs room : Int)) ∧ w'.cell? ⟨w3.heap.size,1,none⟩ = some (.int .i64 (bitsT T th)) ∧ w'.cell? ⟨w3.heap.size,2,none⟩ = some (.int .i64 0) ∧ w'.cell? ⟨bd,doff + r * 5,none⟩ = some (.int .i64 (ixR rs d.src : Int)) ∧ w'.cell? ⟨bd,doff + r * 5 + 1,none⟩ = some (.int .i64 (ixR rs d.dst : Int)) ∧ w'.cell? ⟨bd,doff + r * 5 + 2,none⟩ = some (.int .i64 d.time) ∧ w'.cell? ⟨bd,doff + r * 5 + 3,none⟩ = some (.int .i64 (bitsT T d.needs)) ∧ w'.cell? ⟨bd,doff + r * 5 + 4,none⟩ = some (.int .i64 (bitsT T d.takes)))) (by kernel_rfl) (hsc) (fun hHeld => ?_)
          (refine QT (i:=0) (v:=?_) (by (simp only [Q0,Q2]; rfl)) (by kernel_rfl) (by exact fun _ _ _ h => h) (by rfl) ?_ (by assumption) ?_; (rotate_left 1; (intro w hSw; (try dsimp only at hSw); go_simp); (try with_reducible rfl)); (try simp only [Act.put,Q3,Q4,Q5]))
          (refine QT (i:=1) (v:=?_) (by (simp only [Q0,Q1,Q2]; rfl)) (by kernel_rfl) (by exact fun _ _ _ h => h) (by rfl) ?_ (by assumption) ?_; (rotate_left 1; (intro w hSw; (try dsimp only at hSw); go_simp); (try with_reducible rfl)); (try simp only [Act.put,Q3,Q4,Q5]))
          (refine QT (i:=2) (v:=?_) (by (simp only [Q0,Q1,Q2]; rfl)) (by kernel_rfl) (by exact fun _ _ _ h => h) (by rfl) ?_ (by assumption) ?_; (rotate_left 1; (intro w hSw; (try dsimp only at hSw); go_simp); (try with_reducible rfl)); (try simp only [Act.put,Q3,Q4,Q5]))
          (refine QT (i:=3) (v:=?_) (by (simp only [Q0,Q1,Q2]; rfl)) (by kernel_rfl) (by exact fun _ _ _ h => h) (by rfl) ?_ (by assumption) ?_; (rotate_left 1; (intro w hSw; (try dsimp only at hSw); go_simp); (try with_reducible rfl)); (try simp only [Act.put,Q3,Q4,Q5]))
          (refine QT (i:=4) (v:=?_) (by (simp only [Q0,Q1,Q2]; rfl)) (by kernel_rfl) (by exact fun _ _ _ h => h) (by rfl) ?_ (by assumption) ?_; (rotate_left 1; (intro w hSw; (try dsimp only at hSw); go_simp); (try with_reducible rfl)); (try simp only [Act.put,Q3,Q4,Q5]))
          (refine QT (i:=5) (v:=?_) (by (simp only [Q0,Q1,Q2]; rfl)) (by kernel_rfl) (by exact fun _ _ _ h => h) (by rfl) ?_ (by assumption) ?_; (rotate_left 1; (intro w hSw; (try dsimp only at hSw); go_simp); (try with_reducible rfl)); (try simp only [Act.put,Q3,Q4,Q5]))
          (refine QT (i:=6) (v:=?_) (by (simp only [Q0,Q1,Q2]; rfl)) (by kernel_rfl) (by exact fun _ _ _ h => h) (by rfl) ?_ (by assumption) ?_; (rotate_left 1; (intro w hSw; (try dsimp only at hSw); go_simp); (try with_reducible rfl)); (try simp only [Act.put,Q3,Q4,Q5]))
          (refine QT (i:=7) (v:=?_) (by (simp only [Q0,Q1,Q2]; rfl)) (by kernel_rfl) (by exact fun _ _ _ h => h) (by rfl) ?_ (by assumption) ?_; (rotate_left 1; (intro w hSw; (try dsimp only at hSw); go_simp); (try with_reducible rfl)); (try simp only [Act.put,Q3,Q4,Q5]))
          (refine QT (i:=8) (v:=?_) (by (simp only [Q0,Q1,Q2]; rfl)) (by kernel_rfl) (by exact fun _ _ _ h => h) (by rfl) ?_ (by assumption) ?_; (rotate_left 1; (intro w hSw; (try dsimp only at hSw); go_simp); (try with_reducible rfl)); (try simp only [Act.put,Q3,Q4,Q5]))
          refine wpAnyH_ready (rs:=[9,13]) (by kernel_rfl) (by simp) ?_
          refine AllReadyH.cons rfl (fun K hK => ?_) (AllReadyH.cons rfl (fun K hK => ?_) AllReadyH.nil)
          case refine_1 =>
           go_simp
           go_at_call 49
           refine (pass_no q.p (ixR rs room : Int) (bitsT T th) 0 (ixR rs d.src : Int) (ixR rs d.dst : Int) d.time (bitsT T d.needs) (bitsT T d.takes) _ HNZ.out).mono ?_
           rintro e wp ⟨rfl,hb⟩
           replace hb9:=hb9.trans (hb.mono hb9.size)
           have hsc:=HSC.out _ hb9
           go_wp2_with fail
           refine hK.out _ _ (hsc) (fun hHeld => ?_)
           clear hK K
           (try simp only [Act.put,Q3,Q4,Q5])
           (refine QT (i:=10) (v:=?_) (by (simp only [Q0,Q1,Q2]; rfl)) (by kernel_rfl) (by exact fun _ _ _ h => h) (by rfl) ?_ (by assumption) ?_; (rotate_left 1; (intro w hSw; (try dsimp only at hSw); go_simp); (try with_reducible rfl)); (try simp only [Act.put,Q3,Q4,Q5]))
           (refine QT (i:=11) (v:=?_) (by (simp only [Q0,Q1,Q2]; rfl)) (by kernel_rfl) (by exact fun _ _ _ h => h) (by rfl) ?_ (by assumption) ?_; (rotate_left 1; (intro w hSw; (try dsimp only at hSw); go_simp); (try with_reducible rfl)); (try simp only [Act.put,Q3,Q4,Q5]))
           (refine QT (i:=12) (v:=?_) (by (simp only [Q0,Q1,Q2]; rfl)) (by kernel_rfl) (by exact fun _ _ _ h => h) (by rfl) ?_ (by assumption) ?_; (rotate_left 1; (intro w hSw; (try dsimp only at hSw); go_simp); (try with_reducible rfl)); (try simp only [Act.put,Q3,Q4,Q5]))
           refine wpAnyH_ready (rs:=[13]) (by kernel_rfl) (by simp) ?_
           refine AllReadyH.cons rfl (fun K hK => ?_) AllReadyH.nil
           go_simp
           have hq : Blk (wp.alloc (.cells #[.int .i64 0,.int .i64 0,.int .i64 0] 105)) wp.heap.size 105 #[.int .i64 0,.int .i64 0,.int .i64 0]:=Blk.new _ _ _
           have zq:=hb9.size
           have hb0:=hb9
           replace hb9:=hb9.alloc hb9.size (.cells #[.int .i64 0,.int .i64 0,.int .i64 0] 105)
           have hsc:=HSC.out _ hb9
           refine hK.out _ _ (hsc) (fun hHeld => ?_)
           clear hK K
           (try simp only [Act.put,Q3,Q4,Q5])
           refine wpAnyH_ready (rs:=[14]) (by kernel_rfl) (by simp) ?_
           refine AllReadyH.cons rfl (fun K hK => ?_) AllReadyH.nil
           go_simp
           have hq : Blk (wp.alloc (.cells #[.int .i64 (ixR rs room : Int),.int .i64 (bitsT T th),.int .i64 0] 105)) wp.heap.size 105 #[.int .i64 (ixR rs room : Int),.int .i64 (bitsT T th),.int .i64 0]:=Blk.new _ _ _
           have hb9:=hb0.alloc hb0.size (.cells #[.int .i64 (ixR rs room : Int),.int .i64 (bitsT T th),.int .i64 0] 105)
           have hsc:=HSC.out _ hb9
           refine hK.out _ _ (hsc) (fun hHeld => ?_)
           clear hK K
           (try simp only [Act.put,Q3,Q4,Q5])
           (refine QT (i:=15) (v:=?_) (by (simp only [Q0,Q1,Q2]; rfl)) (by kernel_rfl) (by exact fun _ _ _ h => h) (by rfl) ?_ (by assumption) ?_; (rotate_left 1; (intro w hSw; (try dsimp only at hSw); go_simp); (try with_reducible rfl)); (try simp only [Act.put,Q3,Q4,Q5]))
           refine wpAnyH_done (by kernel_rfl) ?_ _
           go_wp2_with fail
           go_meet
           exact ⟨_,rfl,rfl,zq,hb9,by rw [HXR.out,HXB.out]; first | exact hq | simpa using hq⟩
          case refine_2 =>
           go_simp
           have hq : Blk (w7.drew.alloc (.cells #[.int .i64 0,.int .i64 0,.int .i64 0] 105)) w7.drew.heap.size 105 #[.int .i64 0,.int .i64 0,.int .i64 0]:=Blk.new _ _ _
           have zq:=hb9.size
           have hb0:=hb9
           replace hb9:=hb9.alloc hb9.size (.cells #[.int .i64 0,.int .i64 0,.int .i64 0] 105)
           have hsc:=HSC.out _ hb9
           refine hK.out _ _ (hsc) (fun hHeld => ?_)
           clear hK K
           (try simp only [Act.put,Q3,Q4,Q5])
           refine wpAnyH_ready (rs:=[9]) (by kernel_rfl) (by simp) ?_
           refine AllReadyH.cons rfl (fun K hK => ?_) AllReadyH.nil
           go_simp
           go_at_call 49
           refine (pass_no q.p (ixR rs room : Int) (bitsT T th) 0 (ixR rs d.src : Int) (ixR rs d.dst : Int) d.time (bitsT T d.needs) (bitsT T d.takes) _ HNZ.out).mono ?_
           rintro e wp ⟨rfl,hb⟩
           replace hb9:=hb9.trans (hb.mono hb9.size)
           have hsc:=HSC.out _ hb9
           have hq:=hq.below hb
           go_wp2_with fail
           refine hK.out _ _ (hsc) (fun hHeld => ?_)
           clear hK K
           (try simp only [Act.put,Q3,Q4,Q5])
           (refine QT (i:=10) (v:=?_) (by (simp only [Q0,Q1,Q2]; rfl)) (by kernel_rfl) (by exact fun _ _ _ h => h) (by rfl) ?_ (by assumption) ?_; (rotate_left 1; (intro w hSw; (try dsimp only at hSw); go_simp); (try with_reducible rfl)); (try simp only [Act.put,Q3,Q4,Q5]))
           (refine QT (i:=11) (v:=?_) (by (simp only [Q0,Q1,Q2]; rfl)) (by kernel_rfl) (by exact fun _ _ _ h => h) (by rfl) ?_ (by assumption) ?_; (rotate_left 1; (intro w hSw; (try dsimp only at hSw); go_simp); (try with_reducible rfl)); (try simp only [Act.put,Q3,Q4,Q5]))
           (refine QT (i:=12) (v:=?_) (by (simp only [Q0,Q1,Q2]; rfl)) (by kernel_rfl) (by exact fun _ _ _ h => h) (by rfl) ?_ (by assumption) ?_; (rotate_left 1; (intro w hSw; (try dsimp only at hSw); go_simp); (try with_reducible rfl)); (try simp only [Act.put,Q3,Q4,Q5]))
           refine wpAnyH_ready (rs:=[14]) (by kernel_rfl) (by simp) ?_
           refine AllReadyH.cons rfl (fun K hK => ?_) AllReadyH.nil
           have hq : Blk wp w7.heap.size 105 #[.int .i64 0,.int .i64 0,.int .i64 0]:=hq
           obtain ⟨k0,k1,k2⟩:=hq.w3
           have f0:=hq.thaw 0
           have f1:=hq.thaw 1
           have f2:=hq.thaw 2
           have zqq:=hq.lt
           go_simp
           have hq:=((hq.poke 0 (.int .i64 (ixR rs room : Int))).poke 1 (.int .i64 (bitsT T th))).poke 2 (.int .i64 0)
           have hb9:=Below.setCell (Below.setCell (Below.setCell hb9 (p:=⟨w7.heap.size,0,none⟩) (Nat.le_refl _) (.int .i64 (ixR rs room : Int))) (p:=⟨w7.heap.size,1,none⟩) (Nat.le_refl _) (.int .i64 (bitsT T th))) (p:=⟨w7.heap.size,2,none⟩) (Nat.le_refl _) (.int .i64 0)
           have hsc:=HSC.out _ hb9
           refine hK.out _ _ (hsc) (fun hHeld => ?_)
           clear hK K
           (try simp only [Act.put,Q3,Q4,Q5])
           (refine QT (i:=15) (v:=?_) (by (simp only [Q0,Q1,Q2]; rfl)) (by kernel_rfl) (by exact fun _ _ _ h => h) (by rfl) ?_ (by assumption) ?_; (rotate_left 1; (intro w hSw; (try dsimp only at hSw); go_simp); (try with_reducible rfl)); (try simp only [Act.put,Q3,Q4,Q5]))
           refine wpAnyH_done (by kernel_rfl) ?_ _
           go_wp2_with fail
           go_meet
           exact ⟨_,rfl,rfl,zq,hb9,by rw [HXR.out,HXB.out]; first | exact hq | simpa using hq⟩
        case rest =>
        obtain ⟨nb,rfl,rfl,hnb,hb8,hN⟩:=hcut
        have hsc:=HSC.out _ hb8
        have hbr8 : Below w3.heap.size w3 wc:=hbr7.trans (hb8.mono hbr7.size)
        have hC8:=HC.out.below hbr8
        have hP8:=HP3.out.below hbr8
        obtain ⟨z0,z1⟩:=hP8.two_
        have f0:=hP8.thaw 0
        have f1:=hP8.thaw 1
        cases okb with
        | false =>
         have HV : Hid (R = wkBad 11):=Lib.hid (by
          have hg : goE tr room th d = 11:=by
           unfold goE
           rw [if_neg (fun h => h HEQ.out),if_neg HTK.out,if_pos (of_decide_eq_false HOB.out.symm)]
          rw [HWS.out,HDR.out,HWK.out,hg,if_pos (by decide)])
         have hz8:=(hP8.poke 0 (.string ⟨#[]⟩)).poke 1 (.slice none 0 0)
         have hb68 : Below w.heap.size w ((wc.setCell ⟨w.heap.size + 1,0,none⟩ (.string ⟨#[]⟩)).setCell ⟨w.heap.size + 1,1,none⟩ (.slice none 0 0)):=Below.setCell (Below.setCell hC8.b (by simp) _) (by simp) _
         go_wp2_with fail
         refine bodyPost_ret (res_walk _ _ (w.heap.size + 1) _ _ _ _ [] none 0 0 rfl rfl rfl rfl rfl (hz8.cell 0) (hz8.cell 1)) rfl ?_
         exact WaPostO.bad HV.out hb68
        | true =>
         have hx1 : xr = ixR rs d.dst:=by rw [HXR.out,if_pos rfl]
         have hx2 : xb = bitsT T (thru rs th d):=by rw [HXB.out,if_pos rfl]
         subst hx1 hx2
         clear z0 z1 f0 f1
         have HW8 : Hid (R = walkS rs ds tr (l.drop (k + 1)) d.dst (thru rs th d) (t + d.time)):=Lib.hid (by
          have hg : goE tr room th d = 0:=by
           unfold goE
           rw [if_neg (fun h => h HEQ.out),if_neg HTK.out,if_neg (fun h => h (of_decide_eq_true HOB.out.symm))]
          rw [HWS.out,HDR.out,HWK.out,hg,if_neg (fun h => h rfl)])
         have HOK8 : Hid (ThOk T (thru rs th d)):=Lib.hid (by have:=HOK.out; rw [← HT.out] at this ⊢; exact thru_ok d this)
         have hdt:=HRI.out.time _ HMEM.out
         have hS8:=HS8.out _ hb8
         obtain ⟨a1,a2,a3,a4,a5,a6,a7,a8,a9⟩:=hsc
         obtain ⟨n0,n1,n2⟩:=hN.w3
         have g0:=hS8.thaw 0
         have g1:=hS8.thaw 1
         have g2:=hS8.thaw 2
         have zs8:=hS8.lt
         have zb8:=HBD.out
         have zqp : q.p < w3.heap.size:=HW.out.bl.lt
         clear a5 a6 a8 a9
         go_wp2_with fail
         go_roundw
         case rel => exact ⟨k + 1,d.dst,thru rs th d,t + d.time,by omega,by go_num,rfl,by simpa using ((hS8.poke 0 (.int .i64 (ixR rs d.dst : Int))).poke 1 (.int .i64 (bitsT T (thru rs th d)))).poke 2 (.int .i64 0),HDST,HOK8,HW8,by omega,by omega,Below.setCell (Below.setCell (Below.setCell hbr8 (by simp) _) (by simp) _) (by simp) _⟩
         case measure => simp [intOf]; omega
    ·have hke : k = l.length:=by omega
     subst hke
     have HV : Hid (R = ⟨0,room,th,t⟩):=Lib.hid (by rw [HWS.out,List.drop_length]; rfl)
     have hix:=ixR_lt HRM.out
     obtain ⟨rb,roff,rfl,-,hcell⟩:=hCr.m.room (by omega)
     have hkc:=(hcell _ hix).1
     rw [ixR_key HRM.out] at hkc
     simp only [encStr] at hkc
     have hpt:=pointO_any q.p w.heap.size q.tc w1.heap.size rb roff ca rs.length (ixR rs room) 0 q.TA T th room wr HWr.out.cells.1 HWr.out.cells.2.1 HWr.out.things hfew hCr.cells.1 hkc hix (by omega)
     rw [list_bits HTU.out HOK.out] at hpt
     obtain ⟨s0,s1,s2⟩:=hS.w3
     clear hcell hkc
     go_wp2_with fail
     refine hpt.mono ?_
     rintro e w8 ⟨PA,pc,rfl,hpr,hb8⟩
     clear hpt s0 s1 s2
     have hP8:=hPr.below hb8
     have hb88:=below_up hCr.b hb8
     have hzz:=hCr.b.size
     obtain ⟨z0,z1⟩:=hP8.two_
     have f0:=hP8.thaw 0
     have f1:=hP8.thaw 1
     have hz8:=(hP8.poke 0 (.string ⟨room.toArray⟩)).poke 1 (.slice PA th.length pc)
     have hb68 : Below w.heap.size w ((w8.setCell ⟨w.heap.size + 1,0,none⟩ (.string ⟨room.toArray⟩)).setCell ⟨w.heap.size + 1,1,none⟩ (.slice PA th.length pc)):=Below.setCell (Below.setCell hb88 (by simp) _) (by simp) _
     have HR8 : Hid (((w8.setCell ⟨w.heap.size + 1,0,none⟩ (.string ⟨room.toArray⟩)).setCell ⟨w.heap.size + 1,1,none⟩ (.slice PA th.length pc)).ownsRow w.heap.size 9 1 (.slice PA th.length pc) th.length (strs th)):=Lib.hid (own_down9 (own_past (own_past hpr hP8 (by decide) 0 (.string ⟨room.toArray⟩)) (hP8.poke 0 (.string ⟨room.toArray⟩)) (by decide) 1 (.slice PA th.length pc)) hzz)
     clear hpr hP8 hPr hS
     go_wp2_with fail
     refine bodyPost_ret (res_walk _ _ (w.heap.size + 1) _ _ _ _ room PA th.length pc rfl rfl rfl rfl rfl (hz8.cell 0) (hz8.cell 1)) rfl ?_
     rw [HV.out]
     exact ⟨PA,pc,rfl,HR8.out,hb68⟩
 ·have HV : Hid (R = wkBad te):=Lib.hid (by rw [HR.out]; exact walkE_bad hte h0)
  have d0 : (te != 0) = true:=bne_iff_ne.2 h0
  obtain ⟨z0,z1⟩:=hP.two_
  have f0:=hP.thaw 0
  have f1:=hP.thaw 1
  have hz6:=(hP.poke 0 (.string ⟨#[]⟩)).poke 1 (.slice none 0 0)
  have hb6 : Below w.heap.size w ((w1.setCell ⟨w.heap.size + 1,0,none⟩ (.string ⟨#[]⟩)).setCell ⟨w.heap.size + 1,1,none⟩ (.slice none 0 0)):=Below.setCell (Below.setCell hC.b (by simp) _) (by simp) _
  clear h0 hte
  go_wp2_with fail
  refine bodyPost_ret (res_walk _ _ (w.heap.size + 1) _ _ _ _ [] none 0 0 rfl rfl rfl rfl rfl (hz6.cell 0) (hz6.cell 1)) rfl ?_
  exact WaPostO.bad HV.out hb6
end Go.Proofs.YtpialnjfdbfkdaaGreatDoor
