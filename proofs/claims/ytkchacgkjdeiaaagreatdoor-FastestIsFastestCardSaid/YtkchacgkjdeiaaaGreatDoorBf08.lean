/- Texts of this seat, laid together: GmC. -/
import Derived.Shelf.Strings.SlTrimAscii
import Derived.Handy
import Derived.Test.YtkchacgkjdeiaaaGreatDoorBf01
import Derived.Test.YtkchacgkjdeiaaaGreatDoorBf07
import Derived.Test.YtkchacgkjdeiaaaGreatDoorBf06
/- The walks of input.CheckLevel and splitref1.LevelFault. -/
namespace Go.Proofs.YtkchacgkjdeiaaaGreatDoor
set_option linter.unusedVariables false
set_option linter.unusedSimpArgs false
open Go.RowKit Go.Sort

theorem ba_in (r : List UInt8) {m : Nat} (h : m < r.length) (h' : m < (⟨r.toArray⟩ : ByteArray).size) : (⟨r.toArray⟩ : ByteArray)[m]'h' = r[m]:=by simp [ByteArray.getElem_eq_getElem_data]
theorem row0_at {w : World} {lo : Nat} {A : Option Addr} {rows : List (List UInt8)} (h : Row w lo 1 A rows.length (strs rows)) (h0 : 0 < rows.length) : ∃ b off,A = some ⟨b,off,none⟩ ∧ ∀ k (hk : k < rows.length),w.cell? ⟨b,off + k,none⟩ = some (encStr rows[k]):=by
 obtain ⟨b,off,e,hl,hb,hc⟩:=h.2 (by omega);exact ⟨b,off,e,fun k hk => hc k _ (by simp [strs,hk])⟩
theorem row0_at' {w : World} {lo : Nat} {A : Option Addr} {rows : List (List UInt8)} (h : Row w lo 1 A rows.length (strs rows)) (h0 : 0 < rows.length) : ∃ b off,A = some ⟨b,off,none⟩ ∧ lo ≤ b ∧ b < w.heap.size ∧ ∀ k (hk : k < rows.length),w.cell? ⟨b,off + k,none⟩ = some (encStr rows[k]):=by
 obtain ⟨b,off,e,hl,hb,hc⟩:=h.2 (by omega);exact ⟨b,off,e,hl,hb,fun k hk => hc k _ (by simp [strs,hk])⟩
set_option maxHeartbeats 2000000 in
set_option maxRecDepth 100000 in
theorem checkLevel_any (A : Option Addr) (c lo : Nat) (rows : List (List UInt8)) (w : World) (hr : Row w lo 1 A rows.length (strs rows)) (hl : rows.length ≤ 1000) (hb : ∀ r ∈ rows,r.length ≤ 1000) :
  Calls Tryz.prog 34 #[.slice A rows.length c] w fun e w' => e = .returned (.int .i64 (glvF rows)) ∧ w' = w:=by
 by_cases h0 : rows.length = 0
 ·have HV : Hid (glvF rows = 8):=Lib.hid (by unfold glvF; rw [if_pos h0])
  have HZ:=Lib.hid h0
  have d0 : ((rows.length : Int) == 0) = true:=by simp [h0]
  clear h0 hb
  go_enter Tryz.func34,Tryz.ntmps34
  go_wp2_with fail;go_ret;exact ⟨by rw [HV.out]; rfl,rfl⟩
 by_cases h60 : 60 < rows.length
 ·have HV : Hid (glvF rows = 2):=Lib.hid (by unfold glvF; rw [if_neg h0,if_pos h60])
  have d0 : ((rows.length : Int) == 0) = false:=beq_eq_false_iff_ne.2 (by omega);have d1 : decide ((60 : Int) < (rows.length : Int)) = true:=decide_eq_true (by omega)
  have d2 : (60 : Int) < (rows.length : Int):=by omega
  clear h0 hb h60
  go_enter Tryz.func34,Tryz.ntmps34
  go_wp2_with fail;go_ret;exact ⟨by rw [HV.out]; rfl,rfl⟩
 have hp : 0 < rows.length:=by omega
 obtain ⟨b,off,rfl,hcell⟩:=row0_at hr hp;have HC:=Lib.hid hcell;have c00:=hcell 0 hp;rw [Nat.add_zero] at c00
 have hp' : (0 : Int) < (rows.length : Int):=by omega
 have HB:=Lib.hid hb
 obtain ⟨n0,hn0⟩ : ∃ n0,n0 = rows[0].length:=⟨_,rfl⟩
 have hn0' : (rows.getD 0 []).length = n0:=by rw [hn0,List.getD_eq_getElem?_getD,List.getElem?_eq_getElem hp]; rfl
 have HN:=Lib.hid hn0;have HLS:=Lib.hid (fun h => glvF_scan hp (by omega) hn0' h);have HL1:=Lib.hid (fun h h1 => glvF_start hp (by omega) hn0' h h1);have HL2:=Lib.hid (fun h h1 h2 => glvF_coins hp (by omega) hn0' h h1 h2);have HL3:=Lib.hid (fun h h1 h2 => glvF_ok hp (by omega) hn0' h h1 h2)
 have hn1 : n0 ≤ 1000:=by rw [hn0]; exact hb _ (List.getElem_mem hp)
 have d0 : ((rows.length : Int) == 0) = false:=beq_eq_false_iff_ne.2 (by omega);have d1 : decide ((60 : Int) < (rows.length : Int)) = false:=decide_eq_false (by omega)
 have d2 : ¬ (60 : Int) < (rows.length : Int):=by omega
 have h60' : rows.length ≤ 60:=by omega
 clear hn0' hb hcell h0 h60 hr hn0;unfold encStr at c00;have hz0 : rows[0].length = n0:=HN.out.symm;have HZ0:=Lib.hid hz0;clear hz0
 go_enter Tryz.func34,Tryz.ntmps34
 go_wp2_with fail
 go_loopw [3,4,18] (fun s o i wr => ∃ k : Nat,k ≤ rows.length ∧ i = .int .i64 k ∧ s = .int .i64 (cntG 115 (rows.take k) : Nat) ∧ o = .int .i64 (cntG 111 (rows.take k) : Nat) ∧ Hid (scanE n0 (rows.drop k) = scanE n0 rows) ∧ cntG 115 (rows.take k) ≤ 60 * k ∧ cntG 111 (rows.take k) ≤ 60 * k ∧ wr = w) (fun _ _ i _ => rows.length - (intOf i).toNat)
 case atStart => exact ⟨0,Nat.zero_le _,rfl,rfl,rfl,Lib.hid rfl,by simp [cntG],by simp [cntG],rfl⟩
 case round =>
  obtain ⟨k,hk,rfl,rfl,rfl,HS,hs1,ho1,rfl⟩:=hrel
  by_cases hkn : k < rows.length
  ·have ck:=HC.out k hkn
   have hkn' : (k : Int) < (rows.length : Int):=by omega
   have hrb:=HB.out _ (List.getElem_mem hkn);have HHIT:=Lib.hid (fun h => scanE_hit hkn HS.out h);have HNXT:=Lib.hid (fun h => scanE_next hkn HS.out h);have HT1:=Lib.hid (cntG_take (c:=115) hkn);have HT2:=Lib.hid (cntG_take (c:=111) hkn);generalize hr : rows[k] = r at *;clear hr;unfold encStr at ck;generalize cntG 115 (rows.take k) = s1 at *;generalize cntG 111 (rows.take k) = o1 at *
   by_cases hbig : 60 < r.length
   ·have HV : Hid (glvF rows = 2):=Lib.hid (by
     have h1:=HHIT.out (by rw [rowE_big hbig]; decide);rw [rowE_big hbig] at h1
     rw [HLS.out (by rw [h1]; decide),h1])
    have e1 : decide ((60 : Int) < (r.length : Int)) = true:=decide_eq_true (by omega)
    have e2 : (60 : Int) < (r.length : Int):=by omega
    go_wp2_with fail;go_ret;exact ⟨by rw [HV.out]; rfl,rfl⟩
   have e1 : decide ((60 : Int) < (r.length : Int)) = false:=decide_eq_false (by omega)
   have e2 : ¬ (60 : Int) < (r.length : Int):=by omega
   have HNO : Hid (¬ (r.length = n0 ∧ 0 < r.length ∧ ∀ c ∈ r,c ∈ cellsG) → glvF rows = 3):=Lib.hid (fun hn => by
    have h1:=HHIT.out (by rw [rowE_no hbig hn]; decide);rw [rowE_no hbig hn] at h1
    rw [HLS.out (by rw [h1]; decide),h1])
   by_cases hne : r.length = n0 ∧ 0 < r.length
   ·obtain ⟨hr1,hr2⟩:=hne
    have e3 : ((r.length : Int) != (rows[0].length : Int)) = false:=by rw [HZ0.out,hr1]; simp
    have e4 : ((r.length : Int) == 0) = false:=beq_eq_false_iff_ne.2 (by omega);have HR1:=Lib.hid hr1;clear hr1;go_wp2_with fail
    obtain ⟨wo,rfl⟩ : ∃ wo : World,wo = wr:=⟨_,rfl⟩
    go_loopw [3,4,39] (fun s o i wr => ∃ m : Nat,m ≤ r.length ∧ i = .int .i64 m ∧ s = .int .i64 ((s1 + (r.take m).count 115 : Nat) : Int) ∧ o = .int .i64 ((o1 + (r.take m).count 111 : Nat) : Int) ∧ Hid (∀ c ∈ r.take m,c ∈ cellsG) ∧ wr = wo) (fun _ _ i _ => r.length - (intOf i).toNat)
    case atStart => exact ⟨0,Nat.zero_le _,rfl,by simp,by simp,Lib.hid (fun c hc => by simp at hc),rfl⟩
    case round =>
     obtain ⟨m,hm,rfl,rfl,rfl,HA,rfl⟩:=hrel
     by_cases hmr : m < r.length
     ·have hmz : m < (⟨r.toArray⟩ : ByteArray).size:=by show m < r.toArray.size; rw [List.size_toArray]; exact hmr
      have hbx:=ba_in r hmr hmz;have hc1 : (r.take m).count 115 ≤ 60:=Nat.le_trans List.count_le_length (by rw [List.length_take]; omega);have hc2 : (r.take m).count 111 ≤ 60:=Nat.le_trans List.count_le_length (by rw [List.length_take]; omega);have HK1:=Lib.hid (count_take (c:=115) hmr);have HK2:=Lib.hid (count_take (c:=111) hmr)
      have HNX : Hid (r[m] ∈ cellsG → ∀ c ∈ r.take (m + 1),c ∈ cellsG):=Lib.hid (fun h c hc => by
       rw [List.take_succ_eq_append_getElem hmr] at hc;rcases List.mem_append.1 hc with hc | hc
       ·exact HA.out c hc
       ·rw [List.mem_singleton.1 hc]; exact h)
      have HBAD : Hid (¬ r[m] ∈ cellsG → glvF rows = 3):=Lib.hid (fun h => HNO.out (fun hx => h (hx.2.2 _ (List.getElem_mem hmr))));generalize (r.take m).count 115 = k1 at *;generalize (r.take m).count 111 = k2 at *;generalize r[m] = u at *;have w1 : IntKind.i64.wrap (((s1 + k1 : Nat) : Int) + 1) = ((s1 + k1 : Nat) : Int) + 1:=IntWalk.i64_in _ ⟨by omega,by omega⟩;have w2 : IntKind.i64.wrap (((o1 + k2 : Nat) : Int) + 1) = ((o1 + k2 : Nat) : Int) + 1:=IntWalk.i64_in _ ⟨by omega,by omega⟩
      have key : ∀ z : UInt8,u ≠ z → ((u.toNat : Int) == (z.toNat : Int)) = false:=fun z hz => beq_eq_false_iff_ne.2 (fun e => hz (UInt8.toNat_inj.1 (by omega)))
      have KEY:=Lib.hid key;clear key
      by_cases q1 : u = 46
      ·subst q1
       go_wp2_with fail;go_roundw
       case rel => exact ⟨m + 1,by omega,by go_num,by rw [HK1.out]; rfl,by rw [HK2.out]; rfl,Lib.hid (HNX.out (by decide)),by first | rfl | trivial⟩
       case measure => simp [intOf]; omega
      have p1 : ((u.toNat : Int) == 46) = false:=KEY.out 46 q1
      by_cases q2 : u = 35
      ·subst q2
       go_wp2_with fail;go_roundw
       case rel => exact ⟨m + 1,by omega,by go_num,by rw [HK1.out]; rfl,by rw [HK2.out]; rfl,Lib.hid (HNX.out (by decide)),by first | rfl | trivial⟩
       case measure => simp [intOf]; omega
      have p2 : ((u.toNat : Int) == 35) = false:=KEY.out 35 q2
      by_cases q3 : u = 94
      ·subst q3
       go_wp2_with fail;go_roundw
       case rel => exact ⟨m + 1,by omega,by go_num,by rw [HK1.out]; rfl,by rw [HK2.out]; rfl,Lib.hid (HNX.out (by decide)),by first | rfl | trivial⟩
       case measure => simp [intOf]; omega
      have p3 : ((u.toNat : Int) == 94) = false:=KEY.out 94 q3
      by_cases q4 : u = 120
      ·subst q4
       go_wp2_with fail;go_roundw
       case rel => exact ⟨m + 1,by omega,by go_num,by rw [HK1.out]; rfl,by rw [HK2.out]; rfl,Lib.hid (HNX.out (by decide)),by first | rfl | trivial⟩
       case measure => simp [intOf]; omega
      have p4 : ((u.toNat : Int) == 120) = false:=KEY.out 120 q4
      by_cases q5 : u = 115
      ·subst q5
       go_wp2_with fail;go_roundw
       case rel => exact ⟨m + 1,by omega,by go_num,by rw [HK1.out]; first | rfl | (congr 1),by rw [HK2.out]; rfl,Lib.hid (HNX.out (by decide)),by first | rfl | trivial⟩
       case measure => simp [intOf]; omega
      have p5 : ((u.toNat : Int) == 115) = false:=KEY.out 115 q5
      by_cases q6 : u = 111
      ·subst q6
       go_wp2_with fail;go_roundw
       case rel => exact ⟨m + 1,by omega,by go_num,by rw [HK1.out]; rfl,by rw [HK2.out]; first | rfl | (congr 1),Lib.hid (HNX.out (by decide)),by first | rfl | trivial⟩
       case measure => simp [intOf]; omega
      have p6 : ((u.toNat : Int) == 111) = false:=KEY.out 111 q6;have HV : Hid (glvF rows = 3):=Lib.hid (HBAD.out (by simp [cellsG,q1,q2,q3,q4,q5,q6]));clear q1 q2 q3 q4 q5 q6;go_wp2_with fail;go_ret;exact ⟨by rw [HV.out]; rfl,rfl⟩
     ·have hmm : m = r.length:=by omega
      subst hmm;have HRE : Hid (scanE n0 (rows.drop (k + 1)) = scanE n0 rows):=Lib.hid (HNXT.out (rowE_ok hbig HR1.out hr2 (fun c hc => HA.out c (by rw [List.take_length]; exact hc))));have hc1 : r.count 115 ≤ 60:=Nat.le_trans List.count_le_length (by omega);have hc2 : r.count 111 ≤ 60:=Nat.le_trans List.count_le_length (by omega);rw [List.take_length];go_wp2_with fail;go_roundw
      case rel => exact ⟨k + 1,by omega,by go_num,by rw [HT1.out],by rw [HT2.out],HRE,by rw [HT1.out]; omega,by rw [HT2.out]; omega,by first | rfl | trivial⟩
      case measure => simp [intOf]; omega
   ·have HV : Hid (glvF rows = 3):=Lib.hid (HNO.out (fun h => hne ⟨h.1,h.2.1⟩))
    by_cases hr1 : r.length = n0
    ·have e3 : ((r.length : Int) != (rows[0].length : Int)) = false:=by rw [HZ0.out,hr1]; simp
     have e4 : ((r.length : Int) == 0) = true:=beq_iff_eq.2 (by omega);clear hne hr1;go_wp2_with fail;go_ret;exact ⟨by rw [HV.out]; rfl,rfl⟩
    ·have e3 : ((r.length : Int) != (rows[0].length : Int)) = true:=by rw [HZ0.out]; exact bne_iff_ne.2 (by omega)
     clear hne hr1;go_wp2_with fail;go_ret;exact ⟨by rw [HV.out]; rfl,rfl⟩
  ·have hkk : k = rows.length:=by omega
   subst hkk;have HS0:=Lib.hid (scanE_all HS.out);rw [List.take_length] at *
   by_cases g1 : cntG 115 rows = 1
   ·have f1 : (((cntG 115 rows : Nat) : Int) != 1) = false:=by rw [g1]; rfl
    by_cases g2 : 10 < cntG 111 rows
    ·have f2 : decide ((10 : Int) < ((cntG 111 rows : Nat) : Int)) = true:=decide_eq_true (by omega)
     have f3 : (10 : Int) < ((cntG 111 rows : Nat) : Int):=by omega
     have HV : Hid (glvF rows = 2):=Lib.hid (HL2.out HS0.out g1 g2);clear g1 g2;go_wp2_with fail;go_ret;exact ⟨by rw [HV.out]; rfl,rfl⟩
    ·have f2 : decide ((10 : Int) < ((cntG 111 rows : Nat) : Int)) = false:=decide_eq_false (by omega)
     have f3 : ¬ (10 : Int) < ((cntG 111 rows : Nat) : Int):=by omega
     have HV : Hid (glvF rows = 0):=Lib.hid (HL3.out HS0.out g1 g2);clear g1 g2;go_wp2_with fail;go_ret;exact ⟨by rw [HV.out]; rfl,rfl⟩
   ·have f1 : (((cntG 115 rows : Nat) : Int) != 1) = true:=bne_iff_ne.2 (by omega)
    have HV : Hid (glvF rows = 16):=Lib.hid (HL1.out HS0.out g1);clear g1;go_wp2_with fail;go_ret;exact ⟨by rw [HV.out]; rfl,rfl⟩
theorem trimG_any (s : List UInt8) (w : World) (hs : s.length ≤ 1000000) :
  Calls Tryz.prog 31 #[encStr s,.string ⟨#[46,35,111,94,120,115]⟩] w fun e w' => e = .returned (encStr (Lib.trimS s cellsG)) ∧ Below w.heap.size w w':=by
 have hz : (⟨s.toArray⟩ : ByteArray).size = s.length:=by show s.toArray.size = _; simp
 refine (Any.strings_Trim_laid Tryz.lays160 (by kernel_rfl) ⟨s.toArray⟩ ⟨#[46,35,111,94,120,115]⟩ w (by omega) (by decide) (ascii_of_all (by decide))).mono ?_;rintro e w' ⟨rfl,hb⟩;exact ⟨rfl,hb⟩
theorem joinG_any (b off c lo : Nat) (rows : List (List UInt8)) (w : World) (hr : Row w lo 1 (some ⟨b,off,none⟩) rows.length (strs rows)) (h0 : 0 < rows.length) (hc : rows.length ≤ c) (hl : rows.length ≤ 1000) (hb : ∀ r ∈ rows,r.length ≤ 1000) :
  Calls Tryz.prog 32 #[.slice (some ⟨b,off,none⟩) rows.length c,.string ⟨#[]⟩] w fun e w' => e = .returned (encStr rows.flatten) ∧ Below w.heap.size w w':=by
 have hfl : rows.flatten.length ≤ 1000 * rows.length:=by
  clear hr h0 hc hl
  induction rows with
  | nil => simp
  | cons x xs ih =>
   have h1:=hb x (List.mem_cons_self ..);have h2:=ih (fun r hr => hb r (List.mem_cons_of_mem _ hr));simp only [List.flatten_cons,List.length_append,List.length_cons];omega
 have em : (rows.map fun r => (⟨r.toArray⟩ : ByteArray)).map (·.data.toList) = rows:=by
  rw [List.map_map];exact List.map_id' _
 have el : (rows.map fun r => (⟨r.toArray⟩ : ByteArray)).length = rows.length:=List.length_map _;obtain ⟨b',off',e,_,hb',hcell⟩:=row0_at' hr h0;injection e with e;injection e with e1 e2;subst e1 e2
 have:=Tryz.strings_Join b off c (rows.map fun r => (⟨r.toArray⟩ : ByteArray)) ⟨#[]⟩ w (fun j x hx => by
  rw [List.getElem?_map] at hx
  cases hj : rows[j]? with
  | none => rw [hj] at hx; cases hx
  | some r =>
   rw [hj] at hx;injection hx with hx;obtain ⟨hj1,hj2⟩:=List.getElem?_eq_some_iff.1 hj
   rw [hcell j hj1,hj2,← hx]) hb' (by omega) (by omega) (by rw [em]; show (Lib.join rows []).length ≤ _; rw [join_flat]; omega)
 rw [el] at this;refine this.mono ?_;rintro e w' ⟨rfl,hbb⟩;refine ⟨?_,hbb⟩;rw [em];show Ending.returned (.string ⟨(Lib.join rows []).toArray⟩) = _;rw [join_flat]
set_option maxHeartbeats 2000000 in
set_option maxRecDepth 100000 in
theorem levelFault_any (A : Option Addr) (c lo : Nat) (rows : List (List UInt8)) (w : World) (hr : Row w lo 1 A rows.length (strs rows)) (hc : rows.length ≤ c) (hl : rows.length ≤ 1000) (hb : ∀ r ∈ rows,r.length ≤ 1000) :
  Calls Tryz.prog 8 #[.slice A rows.length c] w fun e w' => e = .returned (.int .i64 (glvF rows)) ∧ Below w.heap.size w w':=by
 by_cases h0 : rows.length = 0
 ·have HV : Hid (glvF rows = 8):=Lib.hid (by unfold glvF; rw [if_pos h0])
  have d0 : ((rows.length : Int) == 0) = true:=by simp [h0]
  clear h0 hb
  go_enter Tryz.func8,Tryz.ntmps8
  go_wp2_with fail;go_ret;exact ⟨by rw [HV.out]; rfl,Below.refl _ _⟩
 by_cases h60 : 60 < rows.length
 ·have HV : Hid (glvF rows = 2):=Lib.hid (by unfold glvF; rw [if_neg h0,if_pos h60])
  have d0 : ((rows.length : Int) == 0) = false:=beq_eq_false_iff_ne.2 (by omega);have d1 : decide ((60 : Int) < (rows.length : Int)) = true:=decide_eq_true (by omega)
  have d2 : (60 : Int) < (rows.length : Int):=by omega
  clear h0 hb h60
  go_enter Tryz.func8,Tryz.ntmps8
  go_wp2_with fail;go_ret;exact ⟨by rw [HV.out]; rfl,Below.refl _ _⟩
 have hp : 0 < rows.length:=by omega
 obtain ⟨b,off,rfl,hcell⟩:=row0_at hr hp;have HC:=Lib.hid hcell;have HB:=Lib.hid hb;have HR:=Lib.hid hr
 obtain ⟨n0,hn0⟩ : ∃ n0,n0 = rows[0].length:=⟨_,rfl⟩
 have hn0' : (rows.getD 0 []).length = n0:=by rw [hn0,List.getD_eq_getElem?_getD,List.getElem?_eq_getElem hp]; rfl
 have HZ0 : Hid (rows[0].length = n0):=Lib.hid hn0.symm;have HLS:=Lib.hid (fun h => glvF_scan hp (by omega) hn0' h);have HL1:=Lib.hid (fun h h1 => glvF_start hp (by omega) hn0' h h1);have HL2:=Lib.hid (fun h h1 h2 => glvF_coins hp (by omega) hn0' h h1 h2);have HL3:=Lib.hid (fun h h1 h2 => glvF_ok hp (by omega) hn0' h h1 h2);have d0 : ((rows.length : Int) == 0) = false:=beq_eq_false_iff_ne.2 (by omega);have d1 : decide ((60 : Int) < (rows.length : Int)) = false:=decide_eq_false (by omega)
 have d2 : ¬ (60 : Int) < (rows.length : Int):=by omega
 have hp' : (0 : Int) < (rows.length : Int):=by omega
 have hbs : b < w.heap.size:=by obtain ⟨b',_,e,_,hb',_⟩:=hr.2 hp; injection e with e; injection e with e; omega
 clear hn0' hb hcell h0 h60 hr hn0
 go_enter Tryz.func8,Tryz.ntmps8
 go_wp2_with fail
 go_loopw [16] (fun i wr => ∃ k : Nat,k ≤ rows.length ∧ i = .int .i64 k ∧ Hid (scanE n0 (rows.drop k) = scanE n0 rows) ∧ Below w.heap.size w wr) (fun i _ => rows.length - (intOf i).toNat)
 case atStart => exact ⟨0,Nat.zero_le _,rfl,Lib.hid rfl,Below.refl _ _⟩
 case round =>
  obtain ⟨k,hk,rfl,HS,hbw⟩:=hrel
  by_cases hkn : k < rows.length
  ·have ck:=(hbw.cell (p:=⟨b,off + k,none⟩) hbs).trans (HC.out k hkn)
   have c0:=(hbw.cell (p:=⟨b,off,none⟩) hbs).trans (HC.out 0 hp)
   have hkn' : (k : Int) < (rows.length : Int):=by omega
   have hrb:=HB.out _ (List.getElem_mem hkn);have HHIT:=Lib.hid (fun h => scanE_hit hkn HS.out h);have HNXT:=Lib.hid (fun h => scanE_next hkn HS.out h);generalize hr : rows[k] = r at *;clear hr;unfold encStr at ck c0
   by_cases hbig : 60 < r.length
   ·have HV : Hid (glvF rows = 2):=Lib.hid (by
     have h1:=HHIT.out (by rw [rowE_big hbig]; decide);rw [rowE_big hbig] at h1
     rw [HLS.out (by rw [h1]; decide),h1])
    have e1 : decide ((60 : Int) < (r.length : Int)) = true:=decide_eq_true (by omega)
    have e2 : (60 : Int) < (r.length : Int):=by omega
    go_wp2_with fail;go_ret;exact ⟨by rw [HV.out]; rfl,hbw⟩
   have e1 : decide ((60 : Int) < (r.length : Int)) = false:=decide_eq_false (by omega)
   have e2 : ¬ (60 : Int) < (r.length : Int):=by omega
   have HNO : Hid (¬ (r.length = n0 ∧ 0 < r.length ∧ ∀ c ∈ r,c ∈ cellsG) → glvF rows = 3):=Lib.hid (fun hn => by
    have h1:=HHIT.out (by rw [rowE_no hbig hn]; decide);rw [rowE_no hbig hn] at h1
    rw [HLS.out (by rw [h1]; decide),h1])
   by_cases hz : r.length = 0
   ·have HV : Hid (glvF rows = 3):=Lib.hid (HNO.out (fun h => by omega))
    obtain rfl : r = []:=List.eq_nil_of_length_eq_zero hz;go_wp2_with fail;go_ret;exact ⟨by rw [HV.out]; rfl,hbw⟩
   have hem : r.isEmpty = false:=by cases r with | nil => exact absurd rfl hz | cons => rfl
   have hem2 : (r == []) = false:=by cases r with | nil => exact absurd rfl hz | cons => rfl
   have HZR:=Lib.hid hz;clear hz
   by_cases hr1 : r.length = n0
   ·have e3 : ((r.length : Int) != (rows[0].length : Int)) = false:=by rw [HZ0.out,hr1]; simp
    have HR1:=Lib.hid hr1;have HTR:=Lib.hid (trim_cells (l:=r) (cs:=cellsG));clear hr1;go_wp2_with fail;refine (trimG_any r _ (by omega)).mono ?_;rintro e w2 ⟨rfl,hb2⟩;generalize Lib.trimS r cellsG = t at *
    by_cases ht : t = []
    ·have HRE : Hid (scanE n0 (rows.drop (k + 1)) = scanE n0 rows):=Lib.hid (HNXT.out (rowE_ok hbig HR1.out (by have:=HZR.out; omega) (HTR.out.1 ht)))
     subst ht;have hbn:=below_up hbw hb2;go_wp2_with fail;go_roundw
     case rel => exact ⟨k + 1,by omega,by go_num,HRE,hbn⟩
     case measure => simp [intOf]; omega
    ·have HV : Hid (glvF rows = 3):=Lib.hid (HNO.out (fun h => ht (HTR.out.2 h.2.2)))
     have tem : t.isEmpty = false:=by cases t with | nil => exact absurd rfl ht | cons => rfl
     have tem2 : (t == []) = false:=by cases t with | nil => exact absurd rfl ht | cons => rfl
     clear ht;go_wp2_with fail;go_ret;exact ⟨by rw [HV.out]; rfl,below_up hbw hb2⟩
   ·have HV : Hid (glvF rows = 3):=Lib.hid (HNO.out (fun h => hr1 h.1))
    have e3 : ((r.length : Int) != (rows[0].length : Int)) = true:=by rw [HZ0.out]; exact bne_iff_ne.2 (by omega)
    clear hr1;go_wp2_with fail;go_ret;exact ⟨by rw [HV.out]; rfl,hbw⟩
  ·have hkk : k = rows.length:=by omega
   subst hkk;have HS0:=Lib.hid (scanE_all HS.out);clear HS;go_wp2_with fail;refine (joinG_any b off c lo rows _ (HR.out.below hbw) hp hc (by omega) HB.out).mono ?_;rintro e w2 ⟨rfl,hb2⟩;have hbn:=below_up hbw hb2;clear hbw hb2;have ec1 : rows.flatten.count 115 = cntG 115 rows:=rfl;have ec2 : rows.flatten.count 111 = cntG 111 rows:=rfl;have EC1:=Lib.hid ec1;have EC2:=Lib.hid ec2;clear ec1 ec2;generalize rows.flatten = fl at *;go_wp2_with fail;refine (count_any fl 115 _).mono ?_;rintro e w3 ⟨rfl,rfl⟩;rw [EC1.out]
   by_cases g1 : cntG 115 rows = 1
   ·have f1 : (((cntG 115 rows : Nat) : Int) != 1) = false:=by rw [g1]; rfl
    have G1:=Lib.hid g1;clear g1;go_wp2_with fail;refine (count_any fl 111 _).mono ?_;rintro e w4 ⟨rfl,rfl⟩;rw [EC2.out]
    by_cases g2 : 10 < cntG 111 rows
    ·have f2 : decide ((10 : Int) < ((cntG 111 rows : Nat) : Int)) = true:=decide_eq_true (by omega)
     have f3 : (10 : Int) < ((cntG 111 rows : Nat) : Int):=by omega
     have HV : Hid (glvF rows = 2):=Lib.hid (HL2.out HS0.out G1.out g2);clear g2;go_wp2_with fail;go_ret;exact ⟨by rw [HV.out]; rfl,hbn⟩
    ·have f2 : decide ((10 : Int) < ((cntG 111 rows : Nat) : Int)) = false:=decide_eq_false (by omega)
     have f3 : ¬ (10 : Int) < ((cntG 111 rows : Nat) : Int):=by omega
     have HV : Hid (glvF rows = 0):=Lib.hid (HL3.out HS0.out G1.out g2);clear g2;go_wp2_with fail;go_ret;exact ⟨by rw [HV.out]; rfl,hbn⟩
   ·have f1 : (((cntG 115 rows : Nat) : Int) != 1) = true:=bne_iff_ne.2 (by omega)
    have HV : Hid (glvF rows = 16):=Lib.hid (HL1.out HS0.out g1);clear g1;go_wp2_with fail;go_ret;exact ⟨by rw [HV.out]; rfl,hbn⟩
end Go.Proofs.YtkchacgkjdeiaaaGreatDoor
