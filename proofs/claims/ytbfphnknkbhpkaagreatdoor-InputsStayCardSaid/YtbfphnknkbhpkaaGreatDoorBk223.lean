/- Texts of this seat, laid together: GmC. -/
import Derived.Shelf.Strings.SlTrimAscii
import Derived.Handy
import Derived.Test.YtbfphnknkbhpkaaGreatDoorBk219
import Derived.Test.YtbfphnknkbhpkaaGreatDoorBk222
import Derived.Test.YtbfphnknkbhpkaaGreatDoorBk205
/- The walks of input.CheckLevel and splitref1.LevelFault. -/
namespace Go.Proofs.YtbfphnknkbhpkaaGreatDoor
set_option linter.unusedVariables false
set_option linter.unusedSimpArgs false
open Go.RowKit Go.Sort

theorem ba_in (r : List UInt8) {m : Nat} (h : m < r.length) (h' : m < (⟨r.toArray⟩ : ByteArray).size) : (⟨r.toArray⟩ : ByteArray)[m]'h' = r[m]:=by simp [ByteArray.getElem_eq_getElem_data]
theorem row0_at {w : World} {lo : Nat} {A : Option Addr} {rows : List (List UInt8)} (h : Row w lo 1 A rows.length (strs rows)) (h0 : 0 < rows.length) : ∃ b off,A = some ⟨b,off,none⟩ ∧ ∀ k (hk : k < rows.length),w.cell? ⟨b,off + k,none⟩ = some (encStr rows[k]):=by
 obtain ⟨b,off,e,hl,hb,hc⟩:=h.2 (by omega)
 exact ⟨b,off,e,fun k hk => hc k _ (by simp [strs,hk])⟩
theorem row0_at' {w : World} {lo : Nat} {A : Option Addr} {rows : List (List UInt8)} (h : Row w lo 1 A rows.length (strs rows)) (h0 : 0 < rows.length) : ∃ b off,A = some ⟨b,off,none⟩ ∧ lo ≤ b ∧ b < w.heap.size ∧ ∀ k (hk : k < rows.length),w.cell? ⟨b,off + k,none⟩ = some (encStr rows[k]):=by
 obtain ⟨b,off,e,hl,hb,hc⟩:=h.2 (by omega)
 exact ⟨b,off,e,hl,hb,fun k hk => hc k _ (by simp [strs,hk])⟩
set_option maxHeartbeats 2000000 in
set_option maxRecDepth 100000 in
theorem checkLevel_any (A : Option Addr) (c lo : Nat) (rows : List (List UInt8)) (w : World) (hr : Row w lo 1 A rows.length (strs rows)) (hl : rows.length ≤ 1000) (hb : ∀ r ∈ rows,r.length ≤ 1000) :
  Calls Tryz.prog 73 #[.slice A rows.length c] w fun e w' => e = .returned (.int .i64 (glvF rows)) ∧ w' = w:=by
 by_cases h0 : rows.length = 0
 ·have HV : Hid (glvF rows = 8):=Lib.hid (by unfold glvF; rw [if_pos h0])
  have HZ:=Lib.hid h0
  have d0 : ((rows.length : Int) == 0) = true:=by simp [h0]
  clear h0 hb
  go_enter Tryz.func73,Tryz.ntmps73
  go_wp2_with fail
  go_ret
  exact ⟨by rw [HV.out]; rfl,rfl⟩
 by_cases h60 : 60 < rows.length
 ·have HV : Hid (glvF rows = 2):=Lib.hid (by unfold glvF; rw [if_neg h0,if_pos h60])
  have d0 : ((rows.length : Int) == 0) = false:=beq_eq_false_iff_ne.2 (by omega)
  have d1 : decide ((60 : Int) < (rows.length : Int)) = true:=decide_eq_true (by omega)
  have d2 : (60 : Int) < (rows.length : Int):=by omega
  clear h0 hb h60
  go_enter Tryz.func73,Tryz.ntmps73
  go_wp2_with fail
  go_ret
  exact ⟨by rw [HV.out]; rfl,rfl⟩
 have hp : 0 < rows.length:=by omega
 obtain ⟨b,off,rfl,hcell⟩:=row0_at hr hp
 have HC:=Lib.hid hcell
 have c00:=hcell 0 hp
 rw [Nat.add_zero] at c00
 have hp' : (0 : Int) < (rows.length : Int):=by omega
 have HB:=Lib.hid hb
 obtain ⟨n0,hn0⟩ : ∃ n0,n0 = rows[0].length:=⟨_,rfl⟩
 have hn0' : (rows.getD 0 []).length = n0:=by rw [hn0,List.getD_eq_getElem?_getD,List.getElem?_eq_getElem hp]; rfl
 have HN:=Lib.hid hn0
 have HLS:=Lib.hid (fun h => glvF_scan hp (by omega) hn0' h)
 have HL1:=Lib.hid (fun h h1 => glvF_start hp (by omega) hn0' h h1)
 have HL2:=Lib.hid (fun h h1 h2 => glvF_coins hp (by omega) hn0' h h1 h2)
 have HL3:=Lib.hid (fun h h1 h2 => glvF_ok hp (by omega) hn0' h h1 h2)
 have hn1 : n0 ≤ 1000:=by rw [hn0]; exact hb _ (List.getElem_mem hp)
 have d0 : ((rows.length : Int) == 0) = false:=beq_eq_false_iff_ne.2 (by omega)
 have d1 : decide ((60 : Int) < (rows.length : Int)) = false:=decide_eq_false (by omega)
 have d2 : ¬ (60 : Int) < (rows.length : Int):=by omega
 have h60' : rows.length ≤ 60:=by omega
 clear hn0' hb hcell h0 h60 hr hn0
 unfold encStr at c00
 have hz0 : rows[0].length = n0:=HN.out.symm
 have HZ0:=Lib.hid hz0
 clear hz0
 go_enter Tryz.func73,Tryz.ntmps73
 go_wp2_with fail
 go_loopw [3,4,18] (fun s o i wr => ∃ k : Nat,k ≤ rows.length ∧ i = .int .i64 k ∧ s = .int .i64 (cntG 115 (rows.take k) : Nat) ∧ o = .int .i64 (cntG 111 (rows.take k) : Nat) ∧ Hid (scanE n0 (rows.drop k) = scanE n0 rows) ∧ cntG 115 (rows.take k) ≤ 60 * k ∧ cntG 111 (rows.take k) ≤ 60 * k ∧ wr = w) (fun _ _ i _ => rows.length - (intOf i).toNat)
 case atStart => exact ⟨0,Nat.zero_le _,rfl,rfl,rfl,Lib.hid rfl,by simp [cntG],by simp [cntG],rfl⟩
 case round =>
  obtain ⟨k,hk,rfl,rfl,rfl,HS,hs1,ho1,rfl⟩:=hrel
  by_cases hkn : k < rows.length
  ·have ck:=HC.out k hkn
   have hkn' : (k : Int) < (rows.length : Int):=by omega
   have hrb:=HB.out _ (List.getElem_mem hkn)
   have HHIT:=Lib.hid (fun h => scanE_hit hkn HS.out h)
   have HNXT:=Lib.hid (fun h => scanE_next hkn HS.out h)
   have HT1:=Lib.hid (cntG_take (c:=115) hkn)
   have HT2:=Lib.hid (cntG_take (c:=111) hkn)
   generalize hr : rows[k] = r at *
   clear hr
   unfold encStr at ck
   generalize cntG 115 (rows.take k) = s1 at *
   generalize cntG 111 (rows.take k) = o1 at *
   by_cases hbig : 60 < r.length
   ·have HV : Hid (glvF rows = 2):=Lib.hid (by
     have h1:=HHIT.out (by rw [rowE_big hbig]; decide)
     rw [rowE_big hbig] at h1
     rw [HLS.out (by rw [h1]; decide),h1])
    have e1 : decide ((60 : Int) < (r.length : Int)) = true:=decide_eq_true (by omega)
    have e2 : (60 : Int) < (r.length : Int):=by omega
    go_wp2_with fail
    go_ret
    exact ⟨by rw [HV.out]; rfl,rfl⟩
   have e1 : decide ((60 : Int) < (r.length : Int)) = false:=decide_eq_false (by omega)
   have e2 : ¬ (60 : Int) < (r.length : Int):=by omega
   have HNO : Hid (¬ (r.length = n0 ∧ 0 < r.length ∧ ∀ c ∈ r,c ∈ cellsG) → glvF rows = 3):=Lib.hid (fun hn => by
    have h1:=HHIT.out (by rw [rowE_no hbig hn]; decide)
    rw [rowE_no hbig hn] at h1
    rw [HLS.out (by rw [h1]; decide),h1])
   by_cases hne : r.length = n0 ∧ 0 < r.length
   ·obtain ⟨hr1,hr2⟩:=hne
    have e3 : ((r.length : Int) != (rows[0].length : Int)) = false:=by rw [HZ0.out,hr1]; simp
    have e4 : ((r.length : Int) == 0) = false:=beq_eq_false_iff_ne.2 (by omega)
    have HR1:=Lib.hid hr1
    clear hr1
    go_wp2_with fail
    obtain ⟨wo,rfl⟩ : ∃ wo : World,wo = wr:=⟨_,rfl⟩
    go_loopw [3,4,39] (fun s o i wr => ∃ m : Nat,m ≤ r.length ∧ i = .int .i64 m ∧ s = .int .i64 ((s1 + (r.take m).count 115 : Nat) : Int) ∧ o = .int .i64 ((o1 + (r.take m).count 111 : Nat) : Int) ∧ Hid (∀ c ∈ r.take m,c ∈ cellsG) ∧ wr = wo) (fun _ _ i _ => r.length - (intOf i).toNat)
    case atStart => exact ⟨0,Nat.zero_le _,rfl,by simp,by simp,Lib.hid (fun c hc => by simp at hc),rfl⟩
    case round =>
     obtain ⟨m,hm,rfl,rfl,rfl,HA,rfl⟩:=hrel
     by_cases hmr : m < r.length
     ·have hmz : m < (⟨r.toArray⟩ : ByteArray).size:=by show m < r.toArray.size; rw [List.size_toArray]; exact hmr
      have hbx:=ba_in r hmr hmz
      have hc1 : (r.take m).count 115 ≤ 60:=Nat.le_trans List.count_le_length (by rw [List.length_take]; omega)
      have hc2 : (r.take m).count 111 ≤ 60:=Nat.le_trans List.count_le_length (by rw [List.length_take]; omega)
      have HK1:=Lib.hid (count_take (c:=115) hmr)
      have HK2:=Lib.hid (count_take (c:=111) hmr)
      have HNX : Hid (r[m] ∈ cellsG → ∀ c ∈ r.take (m + 1),c ∈ cellsG):=Lib.hid (fun h c hc => by
       rw [List.take_succ_eq_append_getElem hmr] at hc
       rcases List.mem_append.1 hc with hc | hc
       ·exact HA.out c hc
       ·rw [List.mem_singleton.1 hc]; exact h)
      have HBAD : Hid (¬ r[m] ∈ cellsG → glvF rows = 3):=Lib.hid (fun h => HNO.out (fun hx => h (hx.2.2 _ (List.getElem_mem hmr))))
      generalize (r.take m).count 115 = k1 at *
      generalize (r.take m).count 111 = k2 at *
      generalize r[m] = u at *
      have w1 : IntKind.i64.wrap (((s1 + k1 : Nat) : Int) + 1) = ((s1 + k1 : Nat) : Int) + 1:=IntWalk.i64_in _ ⟨by omega,by omega⟩
      have w2 : IntKind.i64.wrap (((o1 + k2 : Nat) : Int) + 1) = ((o1 + k2 : Nat) : Int) + 1:=IntWalk.i64_in _ ⟨by omega,by omega⟩
      have key : ∀ z : UInt8,u ≠ z → ((u.toNat : Int) == (z.toNat : Int)) = false:=fun z hz => beq_eq_false_iff_ne.2 (fun e => hz (UInt8.toNat_inj.1 (by omega)))
      have KEY:=Lib.hid key
      clear key
      by_cases q1 : u = 46
      ·subst q1
       go_wp2_with fail
       go_roundw
       case rel => exact ⟨m + 1,by omega,by go_num,by rw [HK1.out]; rfl,by rw [HK2.out]; rfl,Lib.hid (HNX.out (by decide)),by first | rfl | trivial⟩
       case measure => simp [intOf]; omega
      have p1 : ((u.toNat : Int) == 46) = false:=KEY.out 46 q1
      by_cases q2 : u = 35
      ·subst q2
       go_wp2_with fail
       go_roundw
       case rel => exact ⟨m + 1,by omega,by go_num,by rw [HK1.out]; rfl,by rw [HK2.out]; rfl,Lib.hid (HNX.out (by decide)),by first | rfl | trivial⟩
       case measure => simp [intOf]; omega
      have p2 : ((u.toNat : Int) == 35) = false:=KEY.out 35 q2
      by_cases q3 : u = 94
      ·subst q3
       go_wp2_with fail
       go_roundw
       case rel => exact ⟨m + 1,by omega,by go_num,by rw [HK1.out]; rfl,by rw [HK2.out]; rfl,Lib.hid (HNX.out (by decide)),by first | rfl | trivial⟩
       case measure => simp [intOf]; omega
      have p3 : ((u.toNat : Int) == 94) = false:=KEY.out 94 q3
      by_cases q4 : u = 120
      ·subst q4
       go_wp2_with fail
       go_roundw
       case rel => exact ⟨m + 1,by omega,by go_num,by rw [HK1.out]; rfl,by rw [HK2.out]; rfl,Lib.hid (HNX.out (by decide)),by first | rfl | trivial⟩
       case measure => simp [intOf]; omega
      have p4 : ((u.toNat : Int) == 120) = false:=KEY.out 120 q4
      by_cases q5 : u = 115
      ·subst q5
       go_wp2_with fail
       go_roundw
       case rel => exact ⟨m + 1,by omega,by go_num,by rw [HK1.out]; first | rfl | (congr 1),by rw [HK2.out]; rfl,Lib.hid (HNX.out (by decide)),by first | rfl | trivial⟩
       case measure => simp [intOf]; omega
      have p5 : ((u.toNat : Int) == 115) = false:=KEY.out 115 q5
      by_cases q6 : u = 111
      ·subst q6
       go_wp2_with fail
       go_roundw
       case rel => exact ⟨m + 1,by omega,by go_num,by rw [HK1.out]; rfl,by rw [HK2.out]; first | rfl | (congr 1),Lib.hid (HNX.out (by decide)),by first | rfl | trivial⟩
       case measure => simp [intOf]; omega
      have p6 : ((u.toNat : Int) == 111) = false:=KEY.out 111 q6
      have HV : Hid (glvF rows = 3):=Lib.hid (HBAD.out (by simp [cellsG,q1,q2,q3,q4,q5,q6]))
      clear q1 q2 q3 q4 q5 q6
      go_wp2_with fail
      go_ret
      exact ⟨by rw [HV.out]; rfl,rfl⟩
     ·have hmm : m = r.length:=by omega
      subst hmm
      have HRE : Hid (scanE n0 (rows.drop (k + 1)) = scanE n0 rows):=Lib.hid (HNXT.out (rowE_ok hbig HR1.out hr2 (fun c hc => HA.out c (by rw [List.take_length]; exact hc))))
      have hc1 : r.count 115 ≤ 60:=Nat.le_trans List.count_le_length (by omega)
      have hc2 : r.count 111 ≤ 60:=Nat.le_trans List.count_le_length (by omega)
      rw [List.take_length]
      go_wp2_with fail
      go_roundw
      case rel => exact ⟨k + 1,by omega,by go_num,by rw [HT1.out],by rw [HT2.out],HRE,by rw [HT1.out]; omega,by rw [HT2.out]; omega,by first | rfl | trivial⟩
      case measure => simp [intOf]; omega
   ·have HV : Hid (glvF rows = 3):=Lib.hid (HNO.out (fun h => hne ⟨h.1,h.2.1⟩))
    by_cases hr1 : r.length = n0
    ·have e3 : ((r.length : Int) != (rows[0].length : Int)) = false:=by rw [HZ0.out,hr1]; simp
     have e4 : ((r.length : Int) == 0) = true:=beq_iff_eq.2 (by omega)
     clear hne hr1
     go_wp2_with fail
     go_ret
     exact ⟨by rw [HV.out]; rfl,rfl⟩
    ·have e3 : ((r.length : Int) != (rows[0].length : Int)) = true:=by rw [HZ0.out]; exact bne_iff_ne.2 (by omega)
     clear hne hr1
     go_wp2_with fail
     go_ret
     exact ⟨by rw [HV.out]; rfl,rfl⟩
  ·have hkk : k = rows.length:=by omega
   subst hkk
   have HS0:=Lib.hid (scanE_all HS.out)
   rw [List.take_length] at *
   by_cases g1 : cntG 115 rows = 1
   ·have f1 : (((cntG 115 rows : Nat) : Int) != 1) = false:=by rw [g1]; rfl
    by_cases g2 : 10 < cntG 111 rows
    ·have f2 : decide ((10 : Int) < ((cntG 111 rows : Nat) : Int)) = true:=decide_eq_true (by omega)
     have f3 : (10 : Int) < ((cntG 111 rows : Nat) : Int):=by omega
     have HV : Hid (glvF rows = 2):=Lib.hid (HL2.out HS0.out g1 g2)
     clear g1 g2
     go_wp2_with fail
     go_ret
     exact ⟨by rw [HV.out]; rfl,rfl⟩
    ·have f2 : decide ((10 : Int) < ((cntG 111 rows : Nat) : Int)) = false:=decide_eq_false (by omega)
     have f3 : ¬ (10 : Int) < ((cntG 111 rows : Nat) : Int):=by omega
     have HV : Hid (glvF rows = 0):=Lib.hid (HL3.out HS0.out g1 g2)
     clear g1 g2
     go_wp2_with fail
     go_ret
     exact ⟨by rw [HV.out]; rfl,rfl⟩
   ·have f1 : (((cntG 115 rows : Nat) : Int) != 1) = true:=bne_iff_ne.2 (by omega)
    have HV : Hid (glvF rows = 16):=Lib.hid (HL1.out HS0.out g1)
    clear g1
    go_wp2_with fail
    go_ret
    exact ⟨by rw [HV.out]; rfl,rfl⟩
end Go.Proofs.YtbfphnknkbhpkaaGreatDoor
