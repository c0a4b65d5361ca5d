/- Texts of this seat, laid together: LawInputsStay. -/
import Derived.Deep.DeepCutAuto
import Derived.Deep.CutRange
import Derived.Test.YtbfphnknkbhpkaaGreatDoorBk211
import Derived.Test.YtbfphnknkbhpkaaGreatDoorBk218
import Derived.Test.YtbfphnknkbhpkaaGreatDoorBk217
import Derived.Test.YtbfphnknkbhpkaaGreatDoorBk227
import Derived.Test.YtbfphnknkbhpkaaGreatDoorBk245
import Derived.Test.YtbfphnknkbhpkaaGreatDoorBk215
/- For every list of numbers the law InputsStay returns true and leaves the list as it was: its walk. -/
namespace Go.Proofs.YtbfphnknkbhpkaaGreatDoor
set_option linter.unusedVariables false
set_option linter.unusedSimpArgs false
open Go.RowKit Go.Maps Go.Sort

theorem maxL_grown {w w' : World} {g : Nat} (hM : MaxL w) (h : w.grownBy w' (some g)) (hg : 0 < g) : MaxL w':=by
 obtain ⟨m,hm⟩:=hM
 exact ⟨m,h.cell hm (fun e => by injection e with e; simp at e; omega)⟩
def TraceW (w : World) (e : Ending) (w' : World) : Prop :=
 ∃ (A : Option Addr) (n c : Nat) (z : Int),e = .returned (.tuple #[.slice A n c,.int .i64 z]) ∧ n ≤ 1000000 ∧ WrT w' w.heap.size 44 6 A n ∧ Below w.heap.size w w'
theorem trace_w (A : Option Addr) (c : Nat) (rows : List (List UInt8)) (B : Option Addr) (d : Nat) (ps : List (Int × Int)) (w : World) (hr : Row w 0 1 A rows.length (strs rows)) (hl : rows.length ≤ 1000) (hb : ∀ r ∈ rows,r.length ≤ 1000) (hx : Row w 0 2 B ps.length (prs ps)) (hn : ps.length ≤ 1000000000) :
  Calls Tryz.prog 11 #[.slice A rows.length c,.slice B ps.length d] w (TraceW w):=by
 by_cases hf : firstE [glvF rows,inFault ps] = 0
 ·obtain ⟨h1,h2⟩:=two_ok hf
  obtain ⟨sx,sy,hc⟩:=(Lv.of h1).start
  refine (trace_ok 0 A c rows _ sx sy B d ps w hr (Lv.of h1) hc hx h1 h2).mono ?_
  rintro e w' ⟨A',c',rfl,ho,hb'⟩
  have h3 : (playF rows (rows.getD 0 []).length (gs0 sx sy) (unf ps)).length ≤ 200000:=Nat.le_trans playF_len (unf_20 h2)
  exact ⟨A',_,c',_,rfl,by omega,WrT.of_own ho,hb'⟩
 ·refine (trace_bad 0 A c rows B d ps w hr hl hb hx hn hf).mono ?_
  rintro e w' ⟨rfl,hb'⟩
  exact ⟨none,0,0,_,rfl,by omega,fun h => absurd h (by omega),hb'⟩
set_option maxHeartbeats 8000000 in
set_option maxRecDepth 100000 in
theorem inputsStay_walk (A : Option Addr) (n c : Nat) (w : World) (hn : n ≤ 9223372036854775807)
  (hz : ∀ k,k < n → ∃ b off z,A = some ⟨b,off,none⟩ ∧ b < w.heap.size ∧ w.cell? ⟨b,off + k,none⟩ = some (.int .i64 z) ∧ I64 z) (hM : MaxL w) :
  LawCall 3 A n c w:=by
 obtain ⟨L,hL,hs1,hcl⟩:=strE_make (c:=c) hn hz
 subst hL
 have hb0 : Below w.heap.size w ((w.alloc (.cells #[.slice A L.length c,.int .i64 0] 25)).alloc (.cells #[.slice A L.length c,.int .i64 0] 25)):=((Below.refl _ _).alloc (Nat.le_refl _) _).alloc (by simp) _
 have hs2 : StrE ((w.alloc (.cells #[.slice A L.length c,.int .i64 0] 25)).alloc (.cells #[.slice A L.length c,.int .i64 0] 25)) (w.heap.size + 1) w.heap.size L 0:=by
  have:=strE_two (c:=c) hn ((Below.refl w.heap.size w).alloc (Nat.le_refl _) (.cells #[.slice A L.length c,.int .i64 0] 25)) hcl
  simpa using this
 have hs1:=hs1.alloc (.cells #[.slice A L.length c,.int .i64 0] 25)
 have hz0 : ((w.alloc (.cells #[.slice A L.length c,.int .i64 0] 25)).alloc (.cells #[.slice A L.length c,.int .i64 0] 25)).heap.size = w.heap.size + 2:=by simp
 have hmg : 0 < w.heap.size:=by
  obtain ⟨m,hm⟩:=hM
  exact World.block_lt_of_cell? w ⟨0,0,none⟩ hm
 have hM0:=hM.below hb0
 clear hz hcl hM
 go_enter Tryz.func3,Tryz.ntmps3
 go_wp2_with fail
 generalize (w.alloc (.cells #[.slice A L.length c,.int .i64 0] 25)).alloc (.cells #[.slice A L.length c,.int .i64 0] 25) = w0 at *
 have HZ0:=Lib.hid hz0
 clear hz0
 have hgw : w.heap.size + 1 < w0.heap.size:=by have:=HZ0.out; omega
 refine (rightPieces_ex w.heap.size 0 L _ hs1 (by omega)).mono ?_
 rintro e w1 ⟨X,cx,ps,K1,rfl,hox,hlx,hax,hk1,hkb1,hs1,hg1⟩
 have hx : Below w.heap.size w w1:=hb0.grown hg1 (by omega) (fun k hk => by injection hk with hk; omega)
 have hs2:=hs2.other hg1 (by omega) (Nat.le_refl _)
 have hz1:=hg1.size
 have hM1 : MaxL w1:=maxL_grown hM0 hg1 (by omega)
 have hrx:=Row.of_own hox
 have HK1:=Lib.hid hk1
 clear hb0 hM0 hox hg1 hk1
 go_wp2_with fail
 refine (rightPieces_ex (w.heap.size + 1) 0 L _ hs2 (by omega)).mono ?_
 rintro e w2 ⟨Y,cy,ps2,K2,rfl,hoy,hly,_,hk2,_,hs2,hg2⟩
 obtain ⟨rfl,rfl⟩ : ps = ps2 ∧ K1 = K2:=by
  have:=HK1.out.symm.trans hk2
  simpa using this
 have hx:=hx.grown hg2 hx.size (fun k hk => by injection hk with hk; omega)
 have hs1:=hs1.other hg2 (by omega) (by omega)
 have hz2:=hg2.size
 have hM2 : MaxL w2:=maxL_grown hM1 hg2 (by omega)
 have hrx:=hrx.grown hg2 hgw
 have hry:=(Row.of_own hoy).weak hz1
 clear hM1 hoy hg2 hk2 HK1
 go_wp2_with fail
 refine (levelOf_ex w.heap.size K1 L _ hs1 (by omega) hM2 hmg).mono ?_
 rintro e w3 ⟨P,cp,rows,K3,rfl,hrp,hcp,hl10,hl0,hw1,hk3,hkb3,hs1,hg3⟩
 have hx:=hx.grown hg3 hx.size (fun k hk => by injection hk with hk; omega)
 have hs2:=hs2.other hg3 (by omega) (by omega)
 have hz3:=hg3.size
 have hM3 : MaxL w3:=maxL_grown hM2 hg3 (by omega)
 have hrx:=hrx.grown hg3 (by omega)
 have hry:=hry.grown hg3 (by omega)
 have hrp:=hrp.weak (show w0.heap.size ≤ w2.heap.size by omega)
 have HK3:=Lib.hid hk3
 clear hM2 hg3 hk3
 go_wp2_with fail
 refine (levelOf_ex (w.heap.size + 1) K1 L _ hs2 (by omega) hM3 (by omega)).mono ?_
 rintro e w4 ⟨Q,cq,rows2,K4,rfl,hrq,hcq,_,_,_,hk4,_,hs2,hg4⟩
 obtain ⟨rfl,rfl⟩ : rows = rows2 ∧ K3 = K4:=by
  have:=HK3.out.symm.trans hk4
  simpa using this
 have hx:=hx.grown hg4 hx.size (fun k hk => by injection hk with hk; omega)
 have hrx:=row_down (hrx.grown hg4 hgw)
 have hry:=row_down (hry.grown hg4 hgw)
 have hrp:=row_down (hrp.grown hg4 hgw)
 have hrq:=row_down hrq
 have HIN:=Lib.hid (rp_right hlx hax)
 have HW1:=Lib.hid hw1
 have hus:=short_unf hlx hax
 have HCE:=Lib.hid (short_cutE HIN.out hus)
 have HSE:=Lib.hid (short_spcE HIN.out hus)
 have hlens:=short_lens HIN.out hus
 have hw0:=hgw
 clear hs1 hs2 hg4 hk4 HK3 hM3 hmg hax hw1 hus hz1 hz2 hz3 hkb1 hkb3
 go_wp2_with fail
 refine (framesF_any X cx 0 ps _ hrx (by omega)).mono ?_
 rintro e w5 ⟨rfl,hb5⟩
 rw [HIN.out]
 generalize hfr : framesR ps = fr at *
 clear hfr
 have hrx5:=hrx.below hb5
 go_wp2_with fail
 refine (tidyO_any X cx 0 ps _ hrx5 (by omega)).mono ?_
 rintro e w6 ⟨TA,tc,rfl,hot,hb6⟩
 rw [HIN.out]
 have hrx6:=hrx5.below hb6
 have ht:=(WrT.of_own hot).weak hb5.size
 have hy:=below_up hb5 hb6
 obtain ⟨hn1,hn2,hn3⟩:=hlens
 generalize (tidyR ps).length = n1 at *
 clear hot hb5 hb6 hrx5
 go_wp2_with fail
 refine (cutO_any X cx 0 ps 0 fr _ hrx6 (by omega)).mono ?_
 rintro e w7 ⟨CA,cc,rfl,hoc,hb7⟩
 rw [HCE.out]
 have hrx7:=hrx6.below hb7
 have ht:=ht.below hb7
 have hc:=(WrT.of_own hoc).weak hy.size
 have hy:=below_up hy hb7
 generalize (cutR ps 0 fr).length = n2 at *
 clear hoc hb7 hrx6
 go_wp2_with fail
 refine (spliceO_any X X cx cx 0 0 ps ps fr _ hrx7 hrx7 (by omega) (by omega)).mono ?_
 rintro e w8 ⟨SA,sc,rfl,hos,hb8⟩
 rw [HSE.out]
 have ht:=ht.below hb8
 have hc:=hc.below hb8
 have hS:=(WrT.of_own hos).weak hy.size
 have hy:=below_up hy hb8
 generalize (spR ps ps fr).length = n3 at *
 clear hos hb8 hrx7
 go_wp2_with fail
 have hk:=Blk.new w8 26 #[.slice TA n1 tc,.slice CA n2 cc,.slice SA n3 sc]
 have hba:=(Below.refl w8.heap.size w8).alloc (Nat.le_refl _) (.cells #[.slice TA n1 tc,.slice CA n2 cc,.slice SA n3 sc] 26)
 have ht:=ht.below hba
 have hc:=hc.below hba
 have hS:=hS.below hba
 have hbs:=hy.size
 have hy:=below_up hy hba
 generalize w8.alloc (.cells #[.slice TA n1 tc,.slice CA n2 cc,.slice SA n3 sc] 26) = w9 at *
 clear hba
 generalize w8.heap.size = bk at *
 go_loopw [79] (fun i wr => ∃ k : Nat,k ≤ 3 ∧ i = .int .i64 k ∧ (WrT wr w4.heap.size 39 2 TA n1 ∧ WrT wr w4.heap.size 39 2 CA n2 ∧ WrT wr w4.heap.size 39 2 SA n3) ∧ Blk wr bk 26 #[.slice TA n1 tc,.slice CA n2 cc,.slice SA n3 sc] ∧ Below w4.heap.size w4 wr) (fun i _ => 3 - (intOf i).toNat)
 case atStart => exact ⟨0,by omega,rfl,⟨ht,hc,hS⟩,hk,hy⟩
 case round =>
  clear ht hc hS hk hy
  obtain ⟨k,hk3,rfl,hws,hk,hy⟩:=hrel
  by_cases hlt : k < 3
  ·obtain ⟨ZA,zn,zc,hzc,hzn,hzs⟩ : ∃ (ZA : Option Addr) (zn zc : Nat),wr.cell? ⟨bk,k,none⟩ = some (.slice ZA zn zc) ∧ zn ≤ 1000000 ∧ Hid (∀ W : World,(WrT W w4.heap.size 39 2 TA n1 ∧ WrT W w4.heap.size 39 2 CA n2 ∧ WrT W w4.heap.size 39 2 SA n3) → WrT W w4.heap.size 39 2 ZA zn):=by
    have h3 : k = 0 ∨ k = 1 ∨ k = 2:=by omega
    rcases h3 with rfl | rfl | rfl
    ·exact ⟨TA,n1,tc,hk.cell 0,hn1,Lib.hid fun W h => h.1⟩
    ·exact ⟨CA,n2,cc,hk.cell 1,hn2,Lib.hid fun W h => h.2.1⟩
    ·exact ⟨SA,n3,sc,hk.cell 2,hn3,Lib.hid fun W h => h.2.2⟩
   have hkl:=hk.lt
   go_wp2_with fail
   clear hkl hzc
   go_loopw [85] (fun j wv => ∃ i : Nat,i ≤ zn ∧ j = .int .i64 i ∧ (WrT wv w4.heap.size 39 2 TA n1 ∧ WrT wv w4.heap.size 39 2 CA n2 ∧ WrT wv w4.heap.size 39 2 SA n3) ∧ Blk wv bk 26 #[.slice TA n1 tc,.slice CA n2 cc,.slice SA n3 sc] ∧ Below w4.heap.size w4 wv) (fun j _ => zn - (intOf j).toNat)
   case atStart => exact ⟨0,Nat.zero_le _,rfl,hws,hk,hy⟩
   case round =>
    clear hws hk hy
    obtain ⟨i,hi,rfl,hws,hk,hy⟩:=hrel
    by_cases hil : i < zn
    ·obtain ⟨gs,u,rfl,hgb,hgl,cu,fu,hty⟩:=(hzs.out _ hws).cellN (by omega) hil
     have hne:=hk.ne_ty hty (by decide)
     have hw2:=And.intro (hws.1.poke gs (i * 2) (.int .i64 777)) (And.intro (hws.2.1.poke gs (i * 2) (.int .i64 777)) (hws.2.2.poke gs (i * 2) (.int .i64 777)))
     have hk2:=hk.past gs (i * 2) (.int .i64 777) hne
     have hy2:=Below.setCell hy (p:=⟨gs,i * 2,none⟩) hgb (.int .i64 777)
     clear hws hk hy hty hne
     go_wp2_with fail
     go_roundw
     case rel => exact ⟨i + 1,by omega,by go_num,hw2,hk2,hy2⟩
     case measure => simp [intOf]; omega
    ·have hin : i = zn:=by omega
     subst hin
     go_wp2_with fail
     go_roundw
     case rel => exact ⟨k + 1,by omega,by go_num,hws,hk,hy⟩
     case measure => simp [intOf]; omega
  ·have hk3 : k = 3:=by omega
   subst hk3
   clear hws hk hlt
   have hrx:=hrx.below hy
   have hry:=hry.below hy
   have hrp:=hrp.below hy
   have hrq:=hrq.below hy
   have hx:=below_up hx hy
   clear hy
   go_wp2_with fail
   refine (trace_w P cp rows X cx ps _ hrp (by omega) (fun r hr => by have:=HW1.out r hr; omega) hrx (by omega)).mono ?_
   rintro e wt ⟨O,no,oc,zo,rfl,hno,hwo,hb⟩
   by_cases hzo : zo = 0
   ·subst hzo
    go_wp2_with fail
    go_loopw [104] (fun j wv => ∃ i : Nat,i ≤ no ∧ j = .int .i64 i ∧ WrT wv wr.heap.size 44 6 O no ∧ Below wr.heap.size wr wv) (fun j _ => no - (intOf j).toNat)
    case atStart => exact ⟨0,Nat.zero_le _,rfl,hwo,hb⟩
    case round =>
     clear hwo hb
     obtain ⟨i,hi,rfl,hwo,hb⟩:=hrel
     by_cases hil : i < no
     ·obtain ⟨gs,u,rfl,hgb,hgl,cu,fu,hty⟩:=hwo.cellN (by omega) hil
      have hw2:=hwo.poke gs (i * 6) (.int .i64 777)
      have hb2:=Below.setCell hb (p:=⟨gs,i * 6,none⟩) hgb (.int .i64 777)
      clear hwo hb hty
      go_wp2_with fail
      go_roundw
      case rel => exact ⟨i + 1,by omega,by go_num,hw2,hb2⟩
      case measure => simp [intOf]; omega
     ·have hin : i = no:=by omega
      subst hin
      clear hwo
      have hrx:=hrx.below hb
      have hry:=hry.below hb
      have hrp:=hrp.below hb
      have hrq:=hrq.below hb
      have hx:=below_up hx hb
      clear hb
      go_wp2_with fail
      refine (equalP_any X Y cx cy 0 0 ps ps _ hrx hry (by omega) (by omega)).mono ?_
      rintro e we ⟨rfl,q1,rfl⟩
      rw [decide_eq_true (rfl : ps = ps)]
      have hx:=below_drewN' hx q1
      have hrp:=hrp.drewN q1
      have hrq:=hrq.drewN q1
      generalize World.drewN _ q1 = wf at *
      go_wp2_with fail
      refine (equalS_any P Q cp cq 0 0 rows rows _ hrp hrq (by omega) (by omega)).mono ?_
      rintro e we ⟨rfl,q2,rfl⟩
      rw [decide_eq_true (rfl : rows = rows)]
      have hx:=below_drewN' hx q2
      generalize World.drewN _ q2 = wf2 at *
      go_wp2_with fail
      refine (ready_any _).mono ?_
      rintro e wz ⟨rfl,hb⟩
      go_wp2_with fail
      go_ret
      exact ⟨rfl,below_up hx hb⟩
   ·have dz : (zo == 0) = false:=by simpa using hzo
    clear hwo
    have hrx:=hrx.below hb
    have hry:=hry.below hb
    have hrp:=hrp.below hb
    have hrq:=hrq.below hb
    have hx:=below_up hx hb
    clear hb
    go_wp2_with fail
    refine (equalP_any X Y cx cy 0 0 ps ps _ hrx hry (by omega) (by omega)).mono ?_
    rintro e we ⟨rfl,q1,rfl⟩
    rw [decide_eq_true (rfl : ps = ps)]
    have hx:=below_drewN' hx q1
    have hrp:=hrp.drewN q1
    have hrq:=hrq.drewN q1
    generalize World.drewN _ q1 = wf at *
    go_wp2_with fail
    refine (equalS_any P Q cp cq 0 0 rows rows _ hrp hrq (by omega) (by omega)).mono ?_
    rintro e we ⟨rfl,q2,rfl⟩
    rw [decide_eq_true (rfl : rows = rows)]
    have hx:=below_drewN' hx q2
    generalize World.drewN _ q2 = wf2 at *
    go_wp2_with fail
    refine (ready_any _).mono ?_
    rintro e wz ⟨rfl,hb⟩
    go_wp2_with fail
    go_ret
    exact ⟨rfl,below_up hx hb⟩
end Go.Proofs.YtbfphnknkbhpkaaGreatDoor
