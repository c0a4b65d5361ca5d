/- Texts of this seat, laid together: EvB EvD EvE MkA MkB MkC. -/
import Derived.Test.YtbfphnknkbhpkaaGreatDoorBk202
import Derived.Test.YtbfphnknkbhpkaaGreatDoorBk200
/- The walks of CheckVideo and of its reference VideoFault, and of FramesOf. -/
namespace Go.Proofs.YtbfphnknkbhpkaaGreatDoor
set_option linter.unusedVariables false
set_option linter.unusedSimpArgs false
open Go.RowKit

theorem sFault_arg {s : St} (h : ¬ (1 ≤ s.1 ∧ s.1 ≤ 10000000)) : sFault s = 1:=by
 have : argOk s = false:=by rw [Bool.eq_false_iff,Ne,argOk_iff]; exact h
 simp [sFault,this]
theorem sFault_form {s : St} (h : 1 ≤ s.1 ∧ s.1 ≤ 10000000) (h' : ¬ (1 ≤ s.2.2 ∧ s.2.2 ≤ 1001 ∧ s.2.2 ≤ s.2.1 ∧ s.2.1 ≤ 1000 * s.2.2 ∧ gcdI s.2.1 s.2.2 = 1)) : sFault s = 3:=by
 have a : argOk s = true:=(argOk_iff s).2 h
 have : formOk s = false:=by rw [Bool.eq_false_iff,Ne,formOk_iff]; exact h'
 simp [sFault,this,a]
theorem sFault_good {s : St} (h : 1 ≤ s.1 ∧ s.1 ≤ 10000000) (h' : 1 ≤ s.2.2 ∧ s.2.2 ≤ 1001 ∧ s.2.2 ≤ s.2.1 ∧ s.2.1 ≤ 1000 * s.2.2 ∧ gcdI s.2.1 s.2.2 = 1) : sFault s = 0:=by
 have a : argOk s = true:=(argOk_iff s).2 h
 have : formOk s = true:=(formOk_iff s).2 h'
 simp [sFault,this,a]
theorem all_right {v : List St} (h : ∀ s ∈ v,sFault s = 0) : (∀ s ∈ v,1 ≤ s.1 ∧ s.1 ≤ 10000000) ∧ ∀ s ∈ v,1 ≤ s.2.1 ∧ s.2.1 ≤ 1001000 :=
 ⟨fun s hs => (argOk_iff s).1 (sFault_ok (h s hs)).1,fun s hs => by have:=(formOk_iff s).1 (sFault_ok (h s hs)).2; omega⟩

set_option maxHeartbeats 1000000 in
theorem checkVideo_any (A : Option Addr) (c lo : Nat) (v : List St) (w : World) (hr : Row w lo 3 A v.length (trs v)) (hl : v.length ≤ 1000000000) (hi : ∀ s ∈ v,s.2.1 ≤ 9223372036854775807) :
  Calls Tryz.prog 95 #[.slice A v.length c] w fun e w' => e = .returned (.int .i64 (vFault v)) ∧ Below w.heap.size w w':=by
 have HI:=Lib.hid hi
 clear hi
 by_cases hlong : 500 < v.length
 ·have HF:=Lib.hid (vFault_long v hlong)
  go_enter Tryz.func95,Tryz.ntmps95
  go_wp2_with fail
  go_ret
  exact ⟨ret_int' HF.out.symm,Below.refl _ _⟩
 ·go_enter Tryz.func95,Tryz.ntmps95
  go_wp2_with fail
  go_loopw [11] (fun i wr => ∃ k : Nat,k ≤ v.length ∧ i = .int .i64 k ∧ Hid (∀ s ∈ v.take k,sFault s = 0) ∧ Below w.heap.size w wr) (fun i _ => v.length - (intOf i).toNat)
  case atStart => exact ⟨0,Nat.zero_le _,rfl,Lib.hid (by simp),Below.refl _ _⟩
  case round =>
   obtain ⟨k,hk,rfl,hv,hbw⟩:=hrel
   have zw:=hbw.size
   by_cases hlt : k < v.length
   ·obtain ⟨b,off,rfl,_,hbs,c0,c1,c2⟩:=(hr.below hbw).tr_at hlt
    have hbad:=vFault_bad v k (by omega) hlt hv.out
    have HBAD:=Lib.hid hbad
    have HTK:=Lib.hid (sFault_take hv.out hlt)
    have hnum:=HI.out v[k] (List.getElem_mem _)
    clear hbad
    generalize hsk : v[k] = s at *
    clear hsk
    go_wp2_with fail
    refine (out_any _ _ _ _).mono ?_
    rintro e w1 ⟨rfl,rfl⟩
    by_cases h1 : 1 ≤ s.1 ∧ s.1 ≤ 10000000
    ·have h1' : (decide (s.1 < 1) || decide (10000000 < s.1)) = false:=by simp; omega
     rw [h1']
     go_wp2_with fail
     refine (out_any _ _ _ _).mono ?_
     rintro e w1 ⟨rfl,rfl⟩
     by_cases h2 : 1 ≤ s.2.2 ∧ s.2.2 ≤ 1001
     ·have h2' : (decide (s.2.2 < 1) || decide (1001 < s.2.2)) = false:=by simp; omega
      rw [h2']
      obtain ⟨h21,h22⟩:=h2
      go_wp2_with fail
      refine (out_any _ _ _ _).mono ?_
      rintro e w1 ⟨rfl,rfl⟩
      by_cases h3 : s.2.2 ≤ s.2.1 ∧ s.2.1 ≤ 1000 * s.2.2
      ·have h3' : (decide (s.2.1 < s.2.2) || decide (1000 * s.2.2 < s.2.1)) = false:=by simp; omega
       rw [h3']
       obtain ⟨x,hx⟩:=Int.eq_ofNat_of_zero_le (show 0 ≤ s.2.1 by omega)
       obtain ⟨y,hy⟩:=Int.eq_ofNat_of_zero_le (show 0 ≤ s.2.2 by omega)
       have hG : gcdI s.2.1 s.2.2 = (Nat.gcd x y : Int):=by unfold gcdI; rw [hx,hy,Int.toNat_natCast,Int.toNat_natCast]
       have HG:=Lib.hid hG
       have HX:=Lib.hid hx
       have HY:=Lib.hid hy
       go_wp2_with fail
       clear hx hy hG
       refine (lowest_any x y _ (by have:=HX.out; omega) (by have:=HY.out; omega)).mono ?_
       rintro e w1 ⟨rfl,hb1⟩
       by_cases h4 : Nat.gcd x y = 1
       ·have h4' : (Nat.gcd x y == 1) = true:=by simpa using h4
        have HN:=Lib.hid (HTK.out (sFault_good h1 ⟨h21,h22,h3.1,h3.2,by rw [HG.out,h4]; rfl⟩))
        rw [h4']
        clear h4 h4'
        go_wp2_with fail
        go_roundw
        case rel => exact ⟨k + 1,by omega,by go_num,HN,below_up (by repeat (first | exact hbw | refine Below.alloc ?_ (by first | omega | (simp; omega)) _ | refine below_drewN' ?_ _ | refine Below.drew ?_)) hb1⟩
        case measure => simp [intOf]; omega
       ·have h4' : (Nat.gcd x y == 1) = false:=by simpa using h4
        have HF3 : Hid (sFault s = 3):=Lib.hid (sFault_form h1 (by rw [HG.out]; omega))
        have HF:=Lib.hid (HBAD.out (by rw [HF3.out]; omega))
        rw [h4']
        clear h4 h4'
        go_wp2_with fail
        go_ret
        exact ⟨ret_int' (by rw [HF.out,HF3.out]),below_up (by repeat (first | exact hbw | refine Below.alloc ?_ (by first | omega | (simp; omega)) _ | refine below_drewN' ?_ _ | refine Below.drew ?_)) hb1⟩
      ·have h3' : (decide (s.2.1 < s.2.2) || decide (1000 * s.2.2 < s.2.1)) = true:=by simp; omega
       have HF3 : Hid (sFault s = 3):=Lib.hid (sFault_form h1 (by omega))
       have HF:=Lib.hid (HBAD.out (by rw [HF3.out]; omega))
       rw [h3']
       go_wp2_with fail
       go_ret
       exact ⟨ret_int' (by rw [HF.out,HF3.out]),(by repeat (first | exact hbw | refine Below.alloc ?_ (by first | omega | (simp; omega)) _ | refine below_drewN' ?_ _ | refine Below.drew ?_))⟩
     ·have h2' : (decide (s.2.2 < 1) || decide (1001 < s.2.2)) = true:=by simp; omega
      have HF3 : Hid (sFault s = 3):=Lib.hid (sFault_form h1 (by omega))
      have HF:=Lib.hid (HBAD.out (by rw [HF3.out]; omega))
      rw [h2']
      go_wp2_with fail
      go_ret
      exact ⟨ret_int' (by rw [HF.out,HF3.out]),(by repeat (first | exact hbw | refine Below.alloc ?_ (by first | omega | (simp; omega)) _ | refine below_drewN' ?_ _ | refine Below.drew ?_))⟩
    ·have h1' : (decide (s.1 < 1) || decide (10000000 < s.1)) = true:=by simp; omega
     have HF3 : Hid (sFault s = 1):=Lib.hid (sFault_arg h1)
     have HF:=Lib.hid (HBAD.out (by rw [HF3.out]; omega))
     rw [h1']
     go_wp2_with fail
     go_ret
     exact ⟨ret_int' (by rw [HF.out,HF3.out]),(by repeat (first | exact hbw | refine Below.alloc ?_ (by first | omega | (simp; omega)) _ | refine below_drewN' ?_ _ | refine Below.drew ?_))⟩
   ·have hv' : ∀ s ∈ v,sFault s = 0:=by have:=hv.out; rwa [List.take_of_length_le (by omega)] at this
    obtain ⟨ha,hb⟩:=all_right hv'
    have HF:=Lib.hid (vFault_good v (by omega) hv')
    have hsum:=fsum_le v 10000000 fun s hs => (ha s hs).2
    clear hv'
    go_wp2_with fail
    refine (vframes_any _ _ _ v _ (hr.below hbw) hl (fun s hs => by have:=ha s hs; omega) (by omega)).mono ?_
    rintro e w1 ⟨rfl,hb1⟩
    have hbw1:=below_up hbw hb1
    clear ha
    by_cases h2 : 10000000 < fsum v
    ·clear hb
     go_wp2_with fail
     go_ret
     exact ⟨ret_int' (by rw [HF.out,if_pos (.inl h2)]),hbw1⟩
    ·have h2' : decide (10000000 < fsum v) = false:=by simpa using h2
     go_wp2_with fail
     refine (multiple_any _ _ _ v _ (hr.below hbw1) hl hb).mono ?_
     rintro e w2 ⟨rfl,hb2⟩
     clear hb
     by_cases h3 : 100000000 < multK v
     ·go_wp2_with fail
      go_ret
      exact ⟨ret_int' (by rw [HF.out,if_pos (.inr h3)]),below_up hbw1 hb2⟩
     ·go_wp2_with fail
      go_ret
      exact ⟨ret_int' (by rw [HF.out,if_neg (by omega)]),below_up hbw1 hb2⟩

end Go.Proofs.YtbfphnknkbhpkaaGreatDoor
/- The walks of film.long, film.begin, ticks, Fraction and Lowest. -/
namespace Go.Proofs.YtbfphnknkbhpkaaGreatDoor
set_option linter.unusedVariables false
set_option linter.unusedSimpArgs false
open Go.RowKit

def Film (w : World) (g lo : Nat) (A : Option Addr) (c : Nat) (v : List St) : Prop :=
 Blk w g 226 #[.slice A v.length c,.int .i64 (multK v),.int .i64 (fsum v)] ∧ Row w lo 3 A v.length (trs v)
theorem Film.below {w w' : World} {g lo c : Nat} {A : Option Addr} {v : List St} (h : Film w g lo A c v) (hb : Below w.heap.size w w') : Film w' g lo A c v:=⟨h.1.below hb,h.2.below hb⟩
theorem Film.cells {w : World} {g lo c : Nat} {A : Option Addr} {v : List St} (h : Film w g lo A c v) : w.cell? ⟨g,0,none⟩ = some (.slice A v.length c) ∧ w.cell? ⟨g,1,none⟩ = some (.int .i64 (multK v)) ∧ w.cell? ⟨g,2,none⟩ = some (.int .i64 (fsum v)) :=
 ⟨h.1.cell 0,h.1.cell 1,h.1.cell 2⟩
theorem tdiv_ediv {a b : Int} (ha : 0 ≤ a) : a.tdiv b = a / b:=Int.tdiv_eq_ediv_of_nonneg ha
theorem Good.at_ {v : List St} (h : Good v) (k : Nat) (hk : k < v.length) : 1 ≤ v[k].2.1 ∧ v[k].2.1 ≤ 1001000 ∧ 1 ≤ v[k].2.2 ∧ v[k].2.2 ≤ 1001 ∧ 1 ≤ v[k].1 ∧ v[k].1 ≤ 10000000 ∧ 0 ≤ multK v / v[k].2.1 ∧ multK v / v[k].2.1 ≤ 100000000 ∧ 1 ≤ longM (multK v) v[k] ∧ longM (multK v) v[k] ≤ 100000000:=by
 have h1:=h.form v[k] (List.getElem_mem _)
 have h2:=h.pos v[k] (List.getElem_mem _)
 have h3:=h.long v[k] (List.getElem_mem _)
 have h4:=h.mbd
 have h5:=h.mul
 have h6 : 0 ≤ multK v / v[k].2.1:=Int.ediv_nonneg (by omega) (by omega)
 have h7 : multK v / v[k].2.1 ≤ multK v:=Int.ediv_le_self _ (by omega)
 omega

set_option maxHeartbeats 400000 in
theorem long_any (g lo c : Nat) (A : Option Addr) (v : List St) (k : Nat) (hk : k < v.length) (w : World) (hf : Film w g lo A c v) (hg : Good v) :
  Calls Tryz.prog 187 #[.pointer (some ⟨g,0,none⟩),.agg #[.int .i64 v[k].1,.int .i64 v[k].2.1,.int .i64 v[k].2.2]] w fun e w' => e = .returned (.int .i64 (longM (multK v) v[k])) ∧ Below w.heap.size w w':=by
 obtain ⟨f0,f1,f2⟩:=hf.cells
 obtain ⟨a1,a2,b1,b2,_,_,q1,q2,l1,l2⟩:=hg.at_ k hk
 have m1:=hg.mbd
 have m2:=hg.mul
 have hlt:=hf.1.lt
 have HL : Hid (longM (multK v) v[k] = v[k].2.2 * (multK v / v[k].2.1)):=Lib.hid rfl
 rw [HL.out] at l1 l2
 rw [HL.out]
 clear HL hf hg f0 f2
 generalize multK v = M at *
 generalize v[k] = s at *
 have n0 : (s.2.1 == 0) = false:=by simp; omega
 have td : Hid (M.tdiv s.2.1 = M / s.2.1):=Lib.hid (tdiv_ediv (by omega))
 have w1 : IntKind.i64.wrap (M / s.2.1) = M / s.2.1:=IntWalk.i64_in _ ⟨by omega,by omega⟩
 have w2 : IntKind.i64.wrap (s.2.2 * (M / s.2.1)) = s.2.2 * (M / s.2.1):=IntWalk.i64_in _ ⟨by omega,by omega⟩
 have f1':=cell_al f1
 go_enter Tryz.func187,Tryz.ntmps187
 go_wp2_with fail
 go_quiet (fail)
 clear w1 w2
 go_wp2_with fail
 go_ret
 exact ⟨rfl,(by repeat (first | exact Below.refl _ _ | refine Below.alloc ?_ (by first | omega | (simp; omega)) _ | refine below_drewN' ?_ _ | refine Below.drew ?_))⟩

def remM (v : List St) (f : Int) (k : Nat) : Int:=max (f - fsum (v.take k)) 0
theorem used_eq (v : List St) (f : Int) (k : Nat) (hk : k < v.length) : usedM v f k = min (remM v f k) v[k].1:=by
 unfold usedM remM; rw [List.getD_eq_getElem?_getD,List.getElem?_eq_getElem hk]; rfl
theorem rem_next (v : List St) (f : Int) (k : Nat) (hk : k < v.length) (h : 0 ≤ v[k].1) : remM v f (k + 1) = remM v f k - min (remM v f k) v[k].1:=by
 unfold remM; rw [fsum_take v k hk]; omega
theorem beg_next (m : Int) (v : List St) (f : Int) (k : Nat) (hk : k < v.length) : begK m v f (k + 1) = begK m v f k + min (remM v f k) v[k].1 * longM m v[k]:=by
 rw [begK,used_eq v f k hk,List.getD_eq_getElem?_getD,List.getElem?_eq_getElem hk]; rfl
theorem rem_bd (v : List St) (hg : Good v) (f : Int) (k : Nat) : 0 ≤ remM v f k ∧ (0 ≤ f → remM v f k ≤ f):=by
 have:=(fsum_take_le v k hg.nonneg).1
 unfold remM; omega
theorem Good.round {v : List St} (h : Good v) (f : Int) (k : Nat) (hk : k < v.length) (n : Int) (hn : n = min (remM v f k) v[k].1) :
  0 ≤ n ∧ n ≤ v[k].1 ∧ 0 ≤ begK (multK v) v f k ∧ begK (multK v) v f k ≤ 1000000000000000 ∧ 0 ≤ n * longM (multK v) v[k] ∧ n * longM (multK v) v[k] ≤ 1000000000000000 ∧ 0 ≤ n * v[k].2.2 ∧ n * v[k].2.2 ≤ 10010000000 ∧ n * v[k].2.2 * (multK v / v[k].2.1) = n * longM (multK v) v[k]:=by
 have h1:=h.at_ k hk
 have h2:=rem_bd v h f k
 have h3:=begK_bd h f k (by omega)
 have h4:=fsum_take_le v k h.nonneg
 have h5:=h.sum
 have n0 : 0 ≤ n:=by omega
 have n1 : n ≤ v[k].1:=by omega
 have a1 : 0 ≤ n * longM (multK v) v[k]:=Int.mul_nonneg n0 (by omega)
 have a2 : n * longM (multK v) v[k] ≤ 10000000 * 100000000:=Int.mul_le_mul (by omega) (by omega) (by omega) (by omega)
 have a3 : 0 ≤ n * v[k].2.2:=Int.mul_nonneg n0 (by omega)
 have a4 : n * v[k].2.2 ≤ 10000000 * 1001:=Int.mul_le_mul (by omega) (by omega) (by omega) (by omega)
 refine ⟨n0,n1,h3.1,by omega,a1,by omega,a3,by omega,?_⟩
 unfold longM
 rw [Int.mul_assoc]

set_option maxHeartbeats 1000000 in
theorem begin_any (g lo c : Nat) (A : Option Addr) (v : List St) (f : Int) (w : World) (hf : Film w g lo A c v) (hg : Good v) (hf0 : 0 ≤ f) (hf1 : f ≤ 1000000000000) :
  Calls Tryz.prog 153 #[.pointer (some ⟨g,0,none⟩),.int .i64 f] w fun e w' => e = .returned (.int .i64 (begM v f)) ∧ Below w.heap.size w w':=by
 have hlen:=hg.len
 have HG:=Lib.hid hg
 obtain ⟨f0,f1,f2⟩:=hf.cells
 have hR : remM v f 0 = f:=by simp [remM,fsum]; omega
 have HR:=Lib.hid hR
 clear hg hR f1 f2
 go_enter Tryz.func153,Tryz.ntmps153
 go_wp2_with fail
 clear f0
 go_loopw [1,5,14] (fun r a i wr => ∃ k : Nat,k ≤ v.length ∧ i = .int .i64 k ∧ r = .int .i64 (remM v f k) ∧ a = .int .i64 (begK (multK v) v f k) ∧ Below w.heap.size w wr) (fun _ _ i _ => v.length - (intOf i).toNat)
 case atStart => exact ⟨0,Nat.zero_le _,rfl,by rw [HR.out],rfl,Below.refl _ _⟩
 case round =>
  obtain ⟨k,hk,rfl,rfl,rfl,hbw⟩:=hrel
  clear HR
  by_cases hlt : k < v.length
  ·have hfw:=hf.below hbw
   obtain ⟨b,off,rfl,_,hbs,c0,c1,c2⟩:=hfw.2.tr_at hlt
   have HN:=Lib.hid (beg_next (multK v) v f k hlt)
   have HM:=Lib.hid (rem_next v f k hlt (by have:=HG.out.at_ k hlt; omega))
   have hr:=HG.out.round f k hlt _ rfl
   have hrb:=rem_bd v HG.out f k
   have hrb2:=hrb.2 hf0
   obtain ⟨n0,n1,b0,b1,p0,p1,_,_,_⟩:=hr
   have zw:=hbw.size
   rcases (Int.lt_or_le v[k].1 (remM v f k)).symm with hm | hm
   ·have em : min (remM v f k) v[k].1 = remM v f k:=by omega
    rw [em] at n0 n1 p0 p1
    rw [em] at HN HM
    clear em
    go_wp2_with fail
    refine (long_any g lo c _ v k hlt _ (hfw.below (by repeat (first | exact Below.refl _ _ | refine Below.alloc ?_ (by first | omega | (simp; omega)) _ | refine below_drewN' ?_ _ | refine Below.drew ?_))) HG.out).mono ?_
    rintro e w1 ⟨rfl,hb1⟩
    have hb2 : Below w.heap.size w w1:=below_up (by repeat (first | exact hbw | refine Below.alloc ?_ (by first | omega | (simp; omega)) _ | refine below_drewN' ?_ _ | refine Below.drew ?_)) hb1
    have z1:=hb2.size
    clear hb1 c0 c1 c2
    go_wp2_with fail
    go_roundw
    case rel => exact ⟨k + 1,by omega,by go_num,by (rw [HM.out]; try go_num),by (rw [HN.out]; try go_num),(by repeat (first | exact hb2 | refine Below.alloc ?_ (by first | omega | (simp; omega)) _ | refine below_drewN' ?_ _ | refine Below.drew ?_))⟩
    case measure => simp [intOf]; omega
   ·have em : min (remM v f k) v[k].1 = v[k].1:=by omega
    rw [em] at n0 n1 p0 p1
    rw [em] at HN HM
    clear em
    go_wp2_with fail
    refine (long_any g lo c _ v k hlt _ (hfw.below (by repeat (first | exact Below.refl _ _ | refine Below.alloc ?_ (by first | omega | (simp; omega)) _ | refine below_drewN' ?_ _ | refine Below.drew ?_))) HG.out).mono ?_
    rintro e w1 ⟨rfl,hb1⟩
    have hb2 : Below w.heap.size w w1:=below_up (by repeat (first | exact hbw | refine Below.alloc ?_ (by first | omega | (simp; omega)) _ | refine below_drewN' ?_ _ | refine Below.drew ?_)) hb1
    have z1:=hb2.size
    clear hb1 c0 c1 c2
    go_wp2_with fail
    go_roundw
    case rel => exact ⟨k + 1,by omega,by go_num,by (rw [HM.out]; try go_num),by (rw [HN.out]; try go_num),(by repeat (first | exact hb2 | refine Below.alloc ?_ (by first | omega | (simp; omega)) _ | refine below_drewN' ?_ _ | refine Below.drew ?_))⟩
    case measure => simp [intOf]; omega
  ·have hkk : k = v.length:=by omega
   subst hkk
   go_wp2_with fail
   go_ret
   exact ⟨ret_int' rfl,hbw⟩

end Go.Proofs.YtbfphnknkbhpkaaGreatDoor
/- The walks of Fraction, Lowest, newFilm, MomentOf and its reference. -/
namespace Go.Proofs.YtbfphnknkbhpkaaGreatDoor
set_option linter.unusedVariables false
set_option linter.unusedSimpArgs false
open Go.RowKit

theorem Blk.out_ {w : World} {g : Nat} {t : TypeId} {cs : Array Value} (h : Blk w g t cs) : w.heap[g]? = some (.cells cs t (0,0)):=h
theorem Blk.set {w : World} {g : Nat} {t : TypeId} {cs : Array Value} (h : Blk w g t cs) (i : Nat) (u : Value) : Blk (w.setCell ⟨g,i,none⟩ u) g t (cs.setIfInBounds i u):=by
 have:=h.out_
 unfold Blk
 simp [World.setCell,Array.getElem?_modify,this]
theorem Blk.two {w : World} {g : Nat} {t : TypeId} {a b : Value} (h : Blk w g t #[a,b]) (x y : Value) :
  (w.setCell ⟨g,0,none⟩ x).cell? ⟨g,0,none⟩ = some x ∧ ((w.setCell ⟨g,0,none⟩ x).setCell ⟨g,1,none⟩ y).cell? ⟨g,1,none⟩ = some y ∧ ((w.setCell ⟨g,0,none⟩ x).setCell ⟨g,1,none⟩ y).cell? ⟨g,0,none⟩ = some x :=
 ⟨(h.set 0 x).cell 0,((h.set 0 x).set 1 y).cell 1,((h.set 0 x).set 1 y).cell 0⟩
set_option maxHeartbeats 400000 in
theorem newFilm_any (lo c : Nat) (A : Option Addr) (v : List St) (w : World) (hr : Row w lo 3 A v.length (trs v)) (hg : Good v) :
  Calls Tryz.prog 82 #[.slice A v.length c] w fun e w' => ∃ g,e = .returned (.pointer (some ⟨g,0,none⟩)) ∧ Film w' g lo A c v ∧ Below w.heap.size w w':=by
 have hlen:=hg.len
 have HS:=hg.sum
 have HN:=Lib.hid hg.nonneg
 have HF:=Lib.hid fun s (hs : s ∈ v) => by have:=hg.form s hs; exact (⟨by omega,by omega⟩ : 1 ≤ s.2.1 ∧ s.2.1 ≤ 1001000)
 clear hg
 go_enter Tryz.func82,Tryz.ntmps82
 go_wp2_with fail
 refine (multiple_any _ _ _ v _ hr (by omega) HF.out).mono ?_
 rintro e w1 ⟨rfl,hb1⟩
 have hr1:=hr.below hb1
 go_wp2_with fail
 refine (vframes_any _ _ _ v _ hr1 (by omega) HN.out (by omega)).mono ?_
 rintro e w2 ⟨rfl,hb2⟩
 have hr2:=hr1.below hb2
 have hb:=below_up hb1 hb2
 have zz:=hb.size
 clear hb1 hb2 hr1
 go_wp2_with fail
 go_ret
 exact ⟨_,rfl,⟨Blk.new _ _ _,hr2.alloc _⟩,(by repeat (first | exact hb | refine Below.alloc ?_ (by first | omega | (simp; omega)) _ | refine below_drewN' ?_ _ | refine Below.drew ?_))⟩

end Go.Proofs.YtbfphnknkbhpkaaGreatDoor
/- The walks of film.milliseconds, film.times and film.end. -/
namespace Go.Proofs.YtbfphnknkbhpkaaGreatDoor
set_option linter.unusedVariables false
set_option linter.unusedSimpArgs false
open Go.RowKit

theorem ms_bd (m n : Int) (hm : 1 ≤ m) (hn : 0 ≤ n) (hn' : n ≤ 10000000000 * m) : 0 ≤ n / m ∧ n / m ≤ 10000000000 ∧ 0 ≤ n % m ∧ n % m < m ∧ 0 ≤ (2000 * (n % m) + m) / (2 * m) ∧ (2000 * (n % m) + m) / (2 * m) ≤ 2000 * (n % m) + m:=by
 have r1:=Int.emod_nonneg n (show m ≠ 0 by omega)
 have r2:=Int.emod_lt_of_pos n (show 0 < m by omega)
 refine ⟨Int.ediv_nonneg hn (by omega),?_,r1,r2,Int.ediv_nonneg (by omega) (by omega),Int.ediv_le_self _ (by omega)⟩
 have:=Int.ediv_le_ediv (show 0 < m by omega) hn'
 rwa [Int.mul_ediv_cancel _ (by omega)] at this

set_option maxHeartbeats 1000000 in
theorem milliseconds_any (g lo c : Nat) (A : Option Addr) (v : List St) (n : Int) (w : World) (hf : Film w g lo A c v) (hg : Good v) (hn : 0 ≤ n) (hn' : n ≤ 10000000000 * multK v) :
  Calls Tryz.prog 154 #[.pointer (some ⟨g,0,none⟩),.int .i64 n] w fun e w' => e = .returned (.int .i64 (msM (multK v) n)) ∧ Below w.heap.size w w':=by
 obtain ⟨f0,f1,f2⟩:=hf.cells
 have m1:=hg.mbd
 have m2:=hg.mul
 obtain ⟨q0,q1,r0,r1,d0,d1⟩:=ms_bd _ _ m1 hn hn'
 have HM : Hid (n / multK v * 1000 + (2000 * (n % multK v) + multK v) / (2 * multK v) = msM (multK v) n):=Lib.hid rfl
 clear f0 f2 hf hg
 generalize multK v = m at *
 have m0 : (m == 0) = false:=by simp; omega
 have m0' : (2 * m == 0) = false:=by simp; omega
 have hm0 : ¬ m = 0:=by omega
 have tm0 : n.tdiv m = n / m:=tdiv_ediv (by omega)
 have tm1 : n.tmod m = n % m:=Int.tmod_eq_emod_of_nonneg (by omega)
 have tm2 : (2000 * (n % m) + m).tdiv (2 * m) = (2000 * (n % m) + m) / (2 * m):=tdiv_ediv (by omega)
 have wr0 : IntKind.i64.wrap (n / m) = n / m:=IntWalk.i64_in _ ⟨by omega,by omega⟩
 have wr1 : IntKind.i64.wrap (n / m * 1000) = n / m * 1000:=IntWalk.i64_in _ ⟨by omega,by omega⟩
 have wr2 : IntKind.i64.wrap (n % m) = n % m:=IntWalk.i64_in _ ⟨by omega,by omega⟩
 have wr3 : IntKind.i64.wrap (2000 * (n % m)) = 2000 * (n % m):=IntWalk.i64_in _ ⟨by omega,by omega⟩
 have wr4 : IntKind.i64.wrap (2000 * (n % m) + m) = 2000 * (n % m) + m:=IntWalk.i64_in _ ⟨by omega,by omega⟩
 have wr5 : IntKind.i64.wrap (2 * m) = 2 * m:=IntWalk.i64_in _ ⟨by omega,by omega⟩
 have wr6 : IntKind.i64.wrap ((2000 * (n % m) + m) / (2 * m)) = (2000 * (n % m) + m) / (2 * m):=IntWalk.i64_in _ ⟨by omega,by omega⟩
 have wr7 : IntKind.i64.wrap (n / m * 1000 + (2000 * (n % m) + m) / (2 * m)) = n / m * 1000 + (2000 * (n % m) + m) / (2 * m):=IntWalk.i64_in _ ⟨by omega,by omega⟩
 go_enter Tryz.func154,Tryz.ntmps154
 go_wp2_with fail
 go_quiet (fail)
 clear wr0 wr1 wr2 wr3 wr4 wr5 wr6 wr7 tm0 tm1 tm2
 go_wp2_with fail
 go_ret
 exact ⟨ret_int' HM.out,(by repeat (first | exact Below.refl _ _ | refine Below.alloc ?_ (by first | omega | (simp; omega)) _ | refine below_drewN' ?_ _ | refine Below.drew ?_))⟩

set_option maxHeartbeats 2000000 in
theorem times_any (g lo lo' c d : Nat) (A B : Option Addr) (v : List St) (l : List Mk) (w : World) (hf : Film w g lo A c v) (hr : Row w lo' 2 B l.length (prs l)) (hg : Good v) (hl : l.length ≤ 500) (hR : Rises l) (hb : ∀ x ∈ l,0 ≤ x.1 ∧ x.1 ≤ 1000000000000) :
  Calls Tryz.prog 125 #[.pointer (some ⟨g,0,none⟩),.slice B l.length d] w fun e w' => ∃ A' c',e = .returned (.slice A' (tS v l).2.2.length c') ∧ w'.ownsRow w.heap.size 3 1 (.slice A' (tS v l).2.2.length c') (tS v l).2.2.length (ints (tS v l).2.2) ∧ Below w.heap.size w w':=by
 have HG:=Lib.hid hg
 have HR:=Lib.hid hR
 have HB:=Lib.hid hb
 have m1:=hg.mbd
 have m2:=hg.mul
 clear hg hR hb
 go_enter Tryz.func125,Tryz.ntmps125
 go_wp2_with fail
 go_loopw [5,6,7,13] (fun o fr su i wr => ∃ (k : Nat) (A' : Option Addr) (c' : Nat),k ≤ l.length ∧ i = .int .i64 k ∧ fr = .int .i64 (tS v (l.take k)).1 ∧ su = .int .i64 (tS v (l.take k)).2.1 ∧ o = .slice A' (tS v (l.take k)).2.2.length c' ∧ wr.ownsRow w.heap.size 3 1 (.slice A' (tS v (l.take k)).2.2.length c') (tS v (l.take k)).2.2.length (ints (tS v (l.take k)).2.2) ∧ Below w.heap.size w wr) (fun _ _ _ i _ => l.length - (intOf i).toNat)
 case atStart => exact ⟨0,none,0,Nat.zero_le _,rfl,rfl,rfl,rfl,World.ownsRow_nil _ _ _ _,Below.refl _ _⟩
 case round =>
  obtain ⟨k,A',c',hk,rfl,rfl,rfl,rfl,hown,hbw⟩:=hrel
  have zw:=hbw.size
  by_cases hlt : k < l.length
  ·obtain ⟨b,off,rfl,_,hbs,c0,c1⟩:=(hr.below hbw).pr_at hlt
   have hfw:=hf.below hbw
   have HT:=Lib.hid (tS_take v l k hlt)
   obtain ⟨a0,a1,b0,b1,cl⟩:=tS_bd HG.out l HR.out k hk
   have a2:=a1 hlt
   obtain ⟨e0,e1⟩:=begM_bd' HG.out l[k].1
   obtain ⟨x0,x1⟩:=HB.out l[k] (List.getElem_mem _)
   have b2 : (k : Int) * (10000000 * multK v) ≤ 500 * (10000000 * multK v):=Int.mul_le_mul_of_nonneg_right (by omega) (by omega)
   have HON:=Lib.hid (tstep_on v (tS v (l.take k)) l[k])
   have HOF:=Lib.hid (tstep_off v (tS v (l.take k)) l[k])
   have HOU:=Lib.hid (tstep_out v (tS v (l.take k)) l[k])
   clear a1
   generalize tS v (l.take k) = s at *
   generalize hxk : l[k] = x at *
   clear hxk
   go_wp2_with fail
   refine (begin_any g lo c A v x.1 _ (hfw.below (by repeat (first | exact Below.refl _ _ | refine Below.alloc ?_ (by first | omega | (simp; omega)) _ | refine below_drewN' ?_ _ | refine Below.drew ?_))) HG.out x0 x1).mono ?_
   rintro e w1 ⟨rfl,hb1⟩
   have hb2 : Below w.heap.size w w1:=below_up (by repeat (first | exact hbw | refine Below.alloc ?_ (by first | omega | (simp; omega)) _ | refine below_drewN' ?_ _ | refine Below.drew ?_)) hb1
   have kb1:=(Blk.new wr 62 #[.int .i64 x.1,.int .i64 x.2]).below hb1
   have kc : w1.cell? ⟨wr.heap.size,1,none⟩ = some (.int .i64 x.2):=kb1.cell 1
   have hown1:=own_keep (own_keep hown ((Below.refl _ _).alloc (Nat.le_refl _) (.cells #[.int .i64 x.1,.int .i64 x.2] 62))) hb1
   have z1:=hb2.size
   clear hb1 kb1 c0 c1 hown
   generalize begM v x.1 = a at *
   by_cases h1 : x.2 = 1
   ·have HE:=HON.out (.inl h1)
    have t1 : (x.2 == 1) = true:=by simpa using h1
    clear HON HOF HOU
    go_wp2_with fail
    go_roundw
    case rel => exact ⟨k + 1,A',c',by omega,by go_num,by rw [HT.out,HE],by rw [HT.out,HE],by rw [HT.out,HE],by rw [HT.out,HE]; exact hown1,hb2⟩
    case measure => simp [intOf]; omega
   ·have t1 : (x.2 == 1) = false:=by simpa using h1
    by_cases h4 : x.2 = 4
    ·have HE:=HON.out (.inr h4)
     have t4 : (x.2 == 4) = true:=by simpa using h4
     clear HON HOF HOU
     go_wp2_with fail
     go_roundw
     case rel => exact ⟨k + 1,A',c',by omega,by go_num,by rw [HT.out,HE],by rw [HT.out,HE],by rw [HT.out,HE],by rw [HT.out,HE]; exact hown1,hb2⟩
     case measure => simp [intOf]; omega
    ·have t4 : (x.2 == 4) = false:=by simpa using h4
     by_cases h3 : x.2 = 3
     ·have HE:=HOF.out h3
      have t3 : (x.2 == 3) = true:=by simpa using h3
      clear HON HOF HOU
      go_wp2_with fail
      go_roundw
      case rel => exact ⟨k + 1,A',c',by omega,by go_num,by rw [HT.out,HE],by rw [HT.out,HE],by rw [HT.out,HE],by rw [HT.out,HE]; exact hown1,hb2⟩
      case measure => simp [intOf]; omega
     ·have t3 : (x.2 == 3) = false:=by simpa using h3
      have HE:=HOU.out (by omega) h3
      have hfw1:=hf.below hb2
      clear HON HOF HOU
      go_wp2_with fail
      refine (milliseconds_any g lo c A v _ _ hfw1 HG.out (by omega) (by omega)).mono ?_
      rintro e w2 ⟨rfl,hb3⟩
      have hb4:=below_up hb2 hb3
      have hown2:=own_keep hown1 hb3
      have z2:=hb4.size
      clear hb3 hown1
      generalize hMS : msM (multK v) (s.2.1 + a - s.1) = q at *
      generalize hxs : s.2.2 = xs at *
      go_wp2_with (at_builtin; go_must (refine wpList_app (lo:=w.heap.size) (base:=w.heap.size) (n:=xs.length) (xs:=ints xs) _ _ rfl _ _ ty_ints rfl (by repeat (first | exact hown2 | refine World.ownsRow.alloc ?_ _ | refine own_drewN ?_ _ | refine World.ownsRow.drew ?_)) rfl (by first | exact row_new' _ (by first | rfl | simp) (by first | omega | (simp; omega)) rfl | exact row_newN _ _ (by first | rfl | simp) (by first | omega | (simp; omega)) rfl | exact row_newD _ (by first | rfl | simp) (by first | omega | (simp; omega)) rfl) rfl rfl (by first | omega | decide) (by first | omega | decide) (by first | omega | (simp; omega)) ?_))
      intro A5 c5 w5 hown5 hg5 _
      go_wp2_with fail
      go_roundw
      case rel => exact ⟨k + 1,A5,c5,by omega,by go_num,by rw [HT.out,HE],by rw [HT.out,HE],by rw [HT.out,HE]; simp,by rw [HT.out,HE]; simpa [ints] using hown5,below_app hown2 (by repeat (first | exact hb4 | refine Below.alloc ?_ (by first | omega | (simp; omega)) _ | refine below_drewN' ?_ _ | refine Below.drew ?_)) hg5 (Nat.le_refl _) (by simp; omega)⟩
      case measure => simp [intOf]; omega
  ·have hkk : k = l.length:=by omega
   subst hkk
   rw [List.take_length] at hown
   rw [List.take_length]
   go_wp2_with fail
   go_ret
   exact ⟨A',c',rfl,hown,hbw⟩

set_option maxHeartbeats 400000 in
theorem end_any (g lo lo' c d : Nat) (A B : Option Addr) (v : List St) (l : List Mk) (w : World) (hf : Film w g lo A c v) (hr : Row w lo' 2 B l.length (prs l)) (hg : Good v) (hl : l.length ≤ 500) (hR : Rises l) (hb : ∀ x ∈ l,0 ≤ x.1 ∧ x.1 ≤ 1000000000000) (hne : 0 < (tS v l).2.2.length) :
  Calls Tryz.prog 83 #[.pointer (some ⟨g,0,none⟩),.slice B l.length d] w fun e w' => e = .returned (.int .i64 ((tS v l).2.2.getLastD 0)) ∧ Below w.heap.size w w':=by
 have hln:=(tS_bd hg l hR l.length (Nat.le_refl _)).2.2.2.2
 rw [List.take_length] at hln
 have HG:=Lib.hid hg
 have HR:=Lib.hid hR
 have HB:=Lib.hid hb
 clear hg hR hb
 go_enter Tryz.func83,Tryz.ntmps83
 go_wp2_with fail
 refine (times_any g lo lo' c d A B v l w hf hr HG.out hl HR.out HB.out).mono ?_
 rintro e w1 ⟨A',c',rfl,hown,hb1⟩
 generalize hxs : (tS v l).2.2 = xs at *
 have HX:=Lib.hid hxs
 clear hxs
 have hlast : xs.getLastD 0 = xs[xs.length - 1]:=by
  rw [List.getLastD_eq_getLast?,List.getLast?_eq_getElem?,List.getElem?_eq_getElem (by omega)]; rfl
 obtain ⟨b,off,rfl,_,_,c0⟩:=(Row.of_own hown).int_at (k:=xs.length - 1) (by omega)
 rw [← hlast] at c0
 clear hlast hown
 generalize hz : xs.getLastD 0 = z at *
 have HZ:=Lib.hid hz
 clear hz
 obtain ⟨n,hn⟩ : ∃ n,xs.length = n + 1:=⟨xs.length - 1,by omega⟩
 rw [hn] at c0 hln ⊢
 rw [show n + 1 - 1 = n by omega] at c0
 clear hn hne
 go_wp2_with fail
 go_ret
 exact ⟨ret_int' (by rw [HX.out,HZ.out]),hb1⟩
end Go.Proofs.YtbfphnknkbhpkaaGreatDoor
/- What is wrong with marks: plain, and the walks of misplaced and CheckMarks. -/
namespace Go.Proofs.YtbfphnknkbhpkaaGreatDoor
set_option linter.unusedVariables false
set_option linter.unusedSimpArgs false
open Go.RowKit

def misB (kind last : Int) : Bool:=if last = 0 ∨ kind = 1 then decide (last ≠ 0 ∨ kind ≠ 1) else if last = 2 then true else if last = 3 then decide (kind ≠ 4) else decide (kind = 4)
def lastM (l : List Mk) : Int:=l.foldl (fun a x => if x.2 = 5 then a else x.2) 0
theorem lastM_take (l : List Mk) (k : Nat) (h : k < l.length) : lastM (l.take (k + 1)) = if l[k].2 = 5 then lastM (l.take k) else l[k].2:=by
 unfold lastM; rw [List.take_succ_eq_append_getElem h,List.foldl_append]; rfl
def mX (all : Int) (x : Mk) (p : Option Mk) (last : Int) : Int :=
 if 1 ≤ x.2 ∧ x.2 ≤ 5 then (if 0 ≤ x.1 ∧ x.1 ≤ all then (if (p.any fun q => decide (x.1 < q.1)) = true then 7 else if misB x.2 last = true then 16 else 0) else 1) else 4
def prevM (l : List Mk) (k : Nat) : Option Mk:=if k = 0 then none else l[k - 1]?
def mF (all : Int) (l : List Mk) (k : Nat) : Int:=mX all (l.getD k (0,0)) (prevM l k) (lastM (l.take k))
theorem mF_at (all : Int) (l : List Mk) (k : Nat) (h : k < l.length) : mF all l k = mX all l[k] (prevM l k) (lastM (l.take k)):=by
 unfold mF; rw [List.getD_eq_getElem?_getD,List.getElem?_eq_getElem h]; rfl
theorem mX_kind {all : Int} {x : Mk} {p : Option Mk} {last : Int} (h : ¬ (1 ≤ x.2 ∧ x.2 ≤ 5)) : mX all x p last = 4:=by simp only [mX,h,if_false]
theorem mX_arg {all : Int} {x : Mk} {p : Option Mk} {last : Int} (h : 1 ≤ x.2 ∧ x.2 ≤ 5) (h1 : ¬ (0 ≤ x.1 ∧ x.1 ≤ all)) : mX all x p last = 1:=by simp only [mX,h,h1,if_false]; rfl
theorem mX_rest {all : Int} {x : Mk} {p : Option Mk} {last : Int} (h : 1 ≤ x.2 ∧ x.2 ≤ 5) (h1 : 0 ≤ x.1 ∧ x.1 ≤ all) : mX all x p last = if (p.any fun q => decide (x.1 < q.1)) = true then 7 else if misB x.2 last = true then 16 else 0:=by
 unfold mX; rw [if_pos h,if_pos h1]
def mkF (all : Int) (l : List Mk) : Int:=if 200 < l.length then 2 else if firstE ((List.range l.length).map (mF all l)) = 0 then (if lastM l = 2 then 0 else 8) else firstE ((List.range l.length).map (mF all l))
theorem mkF_long {all : Int} {l : List Mk} (h : 200 < l.length) : mkF all l = 2:=by simp [mkF,h]
theorem mkF_bad {all : Int} {l : List Mk} (k : Nat) (h : l.length ≤ 200) (hk : k < l.length) (h0 : ∀ j,j < k → mF all l j = 0) (hv : mF all l k ≠ 0) : mkF all l = mF all l k:=by
 have e : firstE ((List.range l.length).map (mF all l)) = mF all l k:=by
  have:=firstE_hit ((List.range l.length).map (mF all l)) k (by simpa using hk) (by
   intro y hy
   rw [← List.map_take] at hy
   obtain ⟨j,hj,rfl⟩:=List.mem_map.1 hy
   rw [List.take_range,List.mem_range] at hj
   exact h0 j (by omega)) (by simpa using hv)
  simpa using this
 unfold mkF
 rw [e,if_neg (by omega),if_neg hv]
theorem mkF_good {all : Int} {l : List Mk} (h : l.length ≤ 200) (h0 : ∀ j,j < l.length → mF all l j = 0) : mkF all l = if lastM l = 2 then 0 else 8:=by
 have e : firstE ((List.range l.length).map (mF all l)) = 0:=firstE_none _ (by
  intro y hy
  obtain ⟨j,hj,rfl⟩:=List.mem_map.1 hy
  exact h0 j (List.mem_range.1 hj))
 unfold mkF
 rw [e,if_neg (by omega)]; rfl
theorem mkF_all {all : Int} {l : List Mk} (h : mkF all l = 0) : l.length ≤ 200 ∧ (∀ j,j < l.length → mF all l j = 0) ∧ lastM l = 2:=by
 have hl : l.length ≤ 200:=by
  rcases Nat.lt_or_ge 200 l.length with h1 | h1
  ·rw [mkF_long h1] at h; omega
  ·exact h1
 have h0 : ∀ k,k ≤ l.length → ∀ j,j < k → mF all l j = 0:=by
  intro k
  induction k with
  | zero => intro _ j hj; omega
  | succ k ih =>
   intro hk j hj
   have hi:=ih (by omega)
   rcases Nat.lt_or_ge j k with h1 | h1
   ·exact hi j h1
   ·have : j = k:=by omega
    subst this
    rcases Classical.em (mF all l j = 0) with h2 | h2
    ·exact h2
    ·rw [mkF_bad j hl (by omega) hi h2] at h; exact absurd h h2
 refine ⟨hl,h0 _ (Nat.le_refl _),?_⟩
 rw [mkF_good hl (h0 _ (Nat.le_refl _))] at h
 by_cases h2 : lastM l = 2
 ·exact h2
 ·rw [if_neg h2] at h; omega
theorem mkF_ok {all : Int} {l : List Mk} (h : mkF all l = 0) : l.length ≤ 200 ∧ lastM l = 2 ∧ (∀ x ∈ l,1 ≤ x.2 ∧ x.2 ≤ 5 ∧ 0 ≤ x.1 ∧ x.1 ≤ all) ∧ Rises l ∧ ∀ k,(hk : k < l.length) → misB l[k].2 (lastM (l.take k)) = false:=by
 obtain ⟨h1,h2,h3⟩:=mkF_all h
 have key : ∀ k,(hk : k < l.length) → (1 ≤ l[k].2 ∧ l[k].2 ≤ 5) ∧ (0 ≤ l[k].1 ∧ l[k].1 ≤ all) ∧ ((prevM l k).any fun q => decide (l[k].1 < q.1)) = false ∧ misB l[k].2 (lastM (l.take k)) = false:=by
  intro k hk
  have e:=h2 k hk
  rw [mF_at all l k hk] at e
  by_cases a1 : 1 ≤ l[k].2 ∧ l[k].2 ≤ 5
  ·by_cases a2 : 0 ≤ l[k].1 ∧ l[k].1 ≤ all
   ·rw [mX_rest a1 a2] at e
    by_cases a3 : ((prevM l k).any fun q => decide (l[k].1 < q.1)) = true
    ·rw [if_pos a3] at e; omega
    ·rw [if_neg a3] at e
     by_cases a4 : misB l[k].2 (lastM (l.take k)) = true
     ·rw [if_pos a4] at e; omega
     ·exact ⟨a1,a2,by simpa using a3,by simpa using a4⟩
   ·rw [mX_arg a1 a2] at e; omega
  ·rw [mX_kind a1] at e; omega
 refine ⟨h1,h3,fun x hx => ?_,fun k hk => ?_,fun k hk => (key k hk).2.2.2⟩
 ·obtain ⟨k,hk,rfl⟩:=List.getElem_of_mem hx
  have:=key k hk
  omega
 ·have:=(key (k + 1) hk).2.2.1
  simp only [prevM,Nat.add_one_ne_zero,if_false,Nat.add_sub_cancel] at this
  rw [List.getElem?_eq_getElem (by omega)] at this
  simpa using this
def mkFault (v : List St) (l : List Mk) : Int:=if vFault v = 0 then mkF (fsum v) l else vFault v
theorem mkFault_ok {v : List St} {l : List Mk} (h : vFault v = 0) : mkFault v l = mkF (fsum v) l:=by simp [mkFault,h]
theorem mkFault_bad {v : List St} {l : List Mk} (h : ¬ vFault v = 0) : mkFault v l = vFault v:=by simp [mkFault,h]

set_option maxHeartbeats 400000 in
theorem misplaced_any (kind last : Int) (w : World) : Calls Tryz.prog 96 #[.int .i64 kind,.int .i64 last] w fun e w' => e = .returned (.bool (misB kind last)) ∧ w = w':=by
 by_cases h0 : last = 0
 ·subst h0
  by_cases h1 : kind = 1
  ·subst h1
   go_enter Tryz.func96,Tryz.ntmps96
   go_wp2_with fail
   go_ret
   exact ⟨rfl,rfl⟩
  ·have t1 : (kind != 1) = true:=by simpa using h1
   have HM : Hid (true = misB kind 0):=Lib.hid (by simp [misB,h1])
   clear h1
   go_enter Tryz.func96,Tryz.ntmps96
   go_wp2_with fail
   go_ret
   exact ⟨ret_bool' HM.out,rfl⟩
 ·have t0 : (last == 0) = false:=by simpa using h0
  have t0' : (last != 0) = true:=by simpa using h0
  by_cases h1 : kind = 1
  ·subst h1
   have HM : Hid (true = misB 1 last):=Lib.hid (by simp [misB,h0])
   clear h0
   go_enter Tryz.func96,Tryz.ntmps96
   go_wp2_with fail
   go_ret
   exact ⟨ret_bool' HM.out,rfl⟩
  ·have t1 : (kind == 1) = false:=by simpa using h1
   by_cases h2 : last = 2
   ·subst h2
    have HM : Hid (true = misB kind 2):=Lib.hid (by simp [misB,h1])
    clear h1
    go_enter Tryz.func96,Tryz.ntmps96
    go_wp2_with fail
    go_ret
    exact ⟨ret_bool' HM.out,rfl⟩
   ·have t2 : (last == 2) = false:=by simpa using h2
    by_cases h3 : last = 3
    ·subst h3
     have HM : Hid ((kind != 4) = misB kind 3):=Lib.hid (by simp [misB,h1]; rfl)
     clear h1
     go_enter Tryz.func96,Tryz.ntmps96
     go_wp2_with fail
     go_ret
     exact ⟨ret_bool' HM.out,rfl⟩
    ·have t3 : (last == 3) = false:=by simpa using h3
     have HM : Hid ((kind == 4) = misB kind last):=Lib.hid (by simp [misB,h0,h1,h2,h3]; rfl)
     clear h0 h1 h2 h3
     go_enter Tryz.func96,Tryz.ntmps96
     go_wp2_with fail
     go_ret
     exact ⟨ret_bool' HM.out,rfl⟩
end Go.Proofs.YtbfphnknkbhpkaaGreatDoor
/- The walks of CheckMarks, Timed and filmed. -/
namespace Go.Proofs.YtbfphnknkbhpkaaGreatDoor
set_option linter.unusedVariables false
set_option linter.unusedSimpArgs false
open Go.RowKit

set_option maxHeartbeats 2000000 in
theorem checkMarks_any (lo lo' c d : Nat) (A B : Option Addr) (v : List St) (l : List Mk) (w : World) (hr : Row w lo 3 A v.length (trs v)) (hrm : Row w lo' 2 B l.length (prs l)) (hl : v.length ≤ 1000000000) (hlm : l.length ≤ 1000000000) (hi : ∀ s ∈ v,s.2.1 ≤ 9223372036854775807) :
  Calls Tryz.prog 53 #[.slice A v.length c,.slice B l.length d] w fun e w' => e = .returned (.int .i64 (mkFault v l)) ∧ Below w.heap.size w w':=by
 have HI:=Lib.hid hi
 clear hi
 go_enter Tryz.func53,Tryz.ntmps53
 go_wp2_with fail
 refine (checkVideo_any _ _ _ v _ hr hl HI.out).mono ?_
 rintro e w1 ⟨rfl,hb1⟩
 by_cases h0 : vFault v = 0
 ·have h0' : (vFault v != 0) = false:=by simpa using h0
  have HE:=Lib.hid (mkFault_ok (l:=l) h0)
  have HG:=Lib.hid (vFault_ok h0)
  clear h0
  by_cases hlong : 200 < l.length
  ·have HF:=Lib.hid (mkF_long (all:=fsum v) hlong)
   go_wp2_with fail
   go_ret
   exact ⟨ret_int' (by rw [HE.out,HF.out]),hb1⟩
  ·have s1:=HG.out.sum
   have s0:=fsum_nonneg v HG.out.nonneg
   go_wp2_with fail
   refine (vframes_any _ _ _ v _ (hr.below hb1) hl HG.out.nonneg (by omega)).mono ?_
   rintro e w2 ⟨rfl,hb2⟩
   have hx:=below_up hb1 hb2
   clear hb1 hb2 h0'
   go_wp2_with fail
   go_loopw [7,22] (fun la i wr => ∃ k : Nat,k ≤ l.length ∧ i = .int .i64 k ∧ la = .int .i64 (lastM (l.take k)) ∧ Hid (∀ j,j < k → mF (fsum v) l j = 0) ∧ Below w.heap.size w wr) (fun _ i _ => l.length - (intOf i).toNat)
   case atStart => exact ⟨0,Nat.zero_le _,rfl,rfl,Lib.hid (fun j hj => absurd hj (by omega)),hx⟩
   case round =>
    obtain ⟨k,hk,rfl,rfl,hv,hbw⟩:=hrel
    have zw:=hbw.size
    by_cases hlt : k < l.length
    ·have hrw:=hrm.below hbw
     obtain ⟨b,off,hB,_,hbs,c0,c1⟩:=hrw.pr_at hlt
     have HBAD:=Lib.hid (mkF_bad (all:=fsum v) k (by omega) hlt hv.out)
     have HAT:=Lib.hid (mF_at (fsum v) l k hlt)
     have HLT:=Lib.hid (lastM_take l k hlt)
     have HP : Hid (∀ j,k = j + 1 → prevM l k = some (l.getD j (0,0))):=Lib.hid (by
      rintro j rfl
      simp only [prevM,Nat.add_one_ne_zero,if_false,Nat.add_sub_cancel]
      rw [List.getD_eq_getElem?_getD,List.getElem?_eq_getElem (by omega)]; rfl)
     have HCP : Hid (∀ j,k = j + 1 → wr.cell? ⟨b,off + j * 2,none⟩ = some (.int .i64 (l.getD j (0,0)).1)):=Lib.hid (by
      rintro j rfl
      obtain ⟨b',off',hB',_,_,c0',_⟩:=hrw.pr_at (k:=j) (by omega)
      rw [hB] at hB'
      injection hB' with hB'
      injection hB' with e1 e2
      subst e1 e2
      rw [List.getD_eq_getElem?_getD,List.getElem?_eq_getElem (by omega)]
      exact c0')
     subst hB
     generalize lastM (l.take k) = la at *
     generalize hxk : l[k] = x at *
     clear hxk hrw
     go_wp2_with fail
     refine (out_any _ _ _ _).mono ?_
     rintro e w3 ⟨rfl,rfl⟩
     by_cases h1 : 1 ≤ x.2 ∧ x.2 ≤ 5
     ·have h1' : (decide (x.2 < 1) || decide (5 < x.2)) = false:=by simp; omega
      rw [h1']
      clear h1'
      go_wp2_with fail
      refine (out_any _ _ _ _).mono ?_
      rintro e w3 ⟨rfl,rfl⟩
      by_cases h2 : 0 ≤ x.1 ∧ x.1 ≤ fsum v
      ·have h2' : (decide (x.1 < 0) || decide (fsum v < x.1)) = false:=by simp; omega
       rw [h2']
       clear h2'
       have HRE:=Lib.hid (mX_rest (p:=prevM l k) (last:=la) h1 h2)
       clear h1 h2
       rcases Nat.eq_zero_or_pos k with hk0 | hk0
       ·subst hk0
        have HRX : Hid (mF (fsum v) l 0 = if misB x.2 la = true then 16 else 0):=Lib.hid (by rw [HAT.out,HRE.out]; rfl)
        go_wp2_with fail
        go_quiet (fail)
        go_wp2_with fail
        refine (misplaced_any _ _ _).mono ?_
        rintro e w4 ⟨rfl,rfl⟩
        by_cases h4 : misB x.2 la = true
        ·rw [h4]
         have HF:=Lib.hid (HBAD.out (by rw [HRX.out,if_pos h4]; omega))
         go_wp2_with fail
         go_ret
         exact ⟨ret_int' (by rw [HE.out,HF.out,HRX.out,if_pos h4]),(by repeat (first | exact hbw | refine Below.alloc ?_ (by first | omega | (simp; omega)) _ | refine below_drewN' ?_ _ | refine Below.drew ?_))⟩
        ·have h4' : misB x.2 la = false:=by simpa using h4
         have HN : Hid (∀ j,j < 0 + 1 → mF (fsum v) l j = 0):=Lib.hid (by
          intro j hj
          have : j = 0:=by omega
          subst this
          rw [HRX.out,if_neg h4])
         rw [h4']
         clear h4 h4'
         by_cases h5 : x.2 = 5
         ·have t5 : (x.2 != 5) = false:=by simpa using h5
          have HLX : Hid (lastM (l.take (0 + 1)) = la):=Lib.hid (by rw [HLT.out,if_pos h5])
          clear h5
          go_wp2_with fail
          go_roundw
          case rel => exact ⟨0 + 1,by omega,by go_num,by rw [HLX.out],HN,(by repeat (first | exact hbw | refine Below.alloc ?_ (by first | omega | (simp; omega)) _ | refine below_drewN' ?_ _ | refine Below.drew ?_))⟩
          case measure => simp [intOf]; omega
         ·have t5 : (x.2 != 5) = true:=by simpa using h5
          have HLX : Hid (lastM (l.take (0 + 1)) = x.2):=Lib.hid (by rw [HLT.out,if_neg h5])
          clear h5
          go_wp2_with fail
          go_roundw
          case rel => exact ⟨0 + 1,by omega,by go_num,by rw [HLX.out],HN,(by repeat (first | exact hbw | refine Below.alloc ?_ (by first | omega | (simp; omega)) _ | refine below_drewN' ?_ _ | refine Below.drew ?_))⟩
          case measure => simp [intOf]; omega
       ·obtain ⟨j,rfl⟩ : ∃ j,k = j + 1:=⟨k - 1,by omega⟩
        have hcp:=cell_al (HCP.out j rfl) (.cells #[.int .i64 x.1,.int .i64 x.2] 62)
        have HRX : Hid (mF (fsum v) l (j + 1) = if x.1 < (l.getD j (0,0)).1 then 7 else if misB x.2 la = true then 16 else 0):=Lib.hid (by rw [HAT.out,HRE.out,HP.out j rfl]; simp)
        generalize (l.getD j (0,0)).1 = y at *
        have wj : IntKind.i64.wrap ((j : Int) + 1 - 1) = j:=by rw [show (j : Int) + 1 - 1 = j by omega]; exact IntWalk.i64_in _ ⟨by omega,by omega⟩
        by_cases h3 : x.1 < y
        ·have t3 : decide (x.1 < y) = true:=by simpa using h3
         have HF:=Lib.hid (HBAD.out (by rw [HRX.out,if_pos h3]; omega))
         go_wp2_with fail
         go_quiet (fail)
         clear wj
         go_wp2_with fail
         go_ret
         exact ⟨ret_int' (by rw [HE.out,HF.out,HRX.out,if_pos h3]),(by repeat (first | exact hbw | refine Below.alloc ?_ (by first | omega | (simp; omega)) _ | refine below_drewN' ?_ _ | refine Below.drew ?_))⟩
        ·have t3 : decide (x.1 < y) = false:=by simpa using h3
         have H3:=Lib.hid h3
         clear h3
         go_wp2_with fail
         go_quiet (fail)
         clear wj
         go_wp2_with fail
         refine (misplaced_any _ _ _).mono ?_
         rintro e w4 ⟨rfl,rfl⟩
         by_cases h4 : misB x.2 la = true
         ·rw [h4]
          have HF:=Lib.hid (HBAD.out (by rw [HRX.out,if_neg (by have:=H3.out; omega : ¬ x.1 < y),if_pos h4]; omega))
          go_wp2_with fail
          go_ret
          exact ⟨ret_int' (by rw [HE.out,HF.out,HRX.out,if_neg (by have:=H3.out; omega : ¬ x.1 < y),if_pos h4]),(by repeat (first | exact hbw | refine Below.alloc ?_ (by first | omega | (simp; omega)) _ | refine below_drewN' ?_ _ | refine Below.drew ?_))⟩
         ·have h4' : misB x.2 la = false:=by simpa using h4
          have HN : Hid (∀ i,i < j + 1 + 1 → mF (fsum v) l i = 0):=Lib.hid (by
           intro i hi
           rcases Nat.lt_or_ge i (j + 1) with h | h
           ·exact hv.out i h
           ·have : i = j + 1:=by omega
            subst this
            rw [HRX.out,if_neg (by have:=H3.out; omega : ¬ x.1 < y),if_neg h4])
          rw [h4']
          clear h4 h4'
          by_cases h5 : x.2 = 5
          ·have t5 : (x.2 != 5) = false:=by simpa using h5
           have HLX : Hid (lastM (l.take (j + 1 + 1)) = la):=Lib.hid (by rw [HLT.out,if_pos h5])
           clear h5
           go_wp2_with fail
           go_roundw
           case rel => exact ⟨j + 1 + 1,by omega,by go_num,by rw [HLX.out],HN,(by repeat (first | exact hbw | refine Below.alloc ?_ (by first | omega | (simp; omega)) _ | refine below_drewN' ?_ _ | refine Below.drew ?_))⟩
           case measure => simp [intOf]; omega
          ·have t5 : (x.2 != 5) = true:=by simpa using h5
           have HLX : Hid (lastM (l.take (j + 1 + 1)) = x.2):=Lib.hid (by rw [HLT.out,if_neg h5])
           clear h5
           go_wp2_with fail
           go_roundw
           case rel => exact ⟨j + 1 + 1,by omega,by go_num,by rw [HLX.out],HN,(by repeat (first | exact hbw | refine Below.alloc ?_ (by first | omega | (simp; omega)) _ | refine below_drewN' ?_ _ | refine Below.drew ?_))⟩
           case measure => simp [intOf]; omega
      ·have h2' : (decide (x.1 < 0) || decide (fsum v < x.1)) = true:=by simp; omega
       have HA:=Lib.hid (mX_arg (p:=prevM l k) (last:=la) h1 h2)
       have HF:=Lib.hid (HBAD.out (by rw [HAT.out,HA.out]; omega))
       rw [h2']
       go_wp2_with fail
       go_ret
       exact ⟨ret_int' (by rw [HE.out,HF.out,HAT.out,HA.out]),(by repeat (first | exact hbw | refine Below.alloc ?_ (by first | omega | (simp; omega)) _ | refine below_drewN' ?_ _ | refine Below.drew ?_))⟩
     ·have h1' : (decide (x.2 < 1) || decide (5 < x.2)) = true:=by simp; omega
      have HA:=Lib.hid (mX_kind (all:=fsum v) (p:=prevM l k) (last:=la) h1)
      have HF:=Lib.hid (HBAD.out (by rw [HAT.out,HA.out]; omega))
      rw [h1']
      go_wp2_with fail
      go_ret
      exact ⟨ret_int' (by rw [HE.out,HF.out,HAT.out,HA.out]),(by repeat (first | exact hbw | refine Below.alloc ?_ (by first | omega | (simp; omega)) _ | refine below_drewN' ?_ _ | refine Below.drew ?_))⟩
    ·have hkk : k = l.length:=by omega
     subst hkk
     have HF:=Lib.hid (mkF_good (by omega) hv.out)
     rw [List.take_length]
     by_cases h2 : lastM l = 2
     ·have t2 : (lastM l != 2) = false:=by simpa using h2
      have HF2 : Hid (mkF (fsum v) l = 0):=Lib.hid (by rw [HF.out,if_pos h2])
      clear h2
      go_wp2_with fail
      go_ret
      exact ⟨ret_int' (by rw [HE.out,HF2.out]),hbw⟩
     ·have t2 : (lastM l != 2) = true:=by simpa using h2
      have HF2 : Hid (mkF (fsum v) l = 8):=Lib.hid (by rw [HF.out,if_neg h2])
      clear h2
      go_wp2_with fail
      go_ret
      exact ⟨ret_int' (by rw [HE.out,HF2.out]),hbw⟩
 ·have h0' : (vFault v != 0) = true:=by simpa using h0
  have HE:=Lib.hid (mkFault_bad (l:=l) h0)
  clear h0
  go_wp2_with fail
  go_ret
  exact ⟨ret_int' HE.out.symm,hb1⟩

def tmE (v : List St) (l : List Mk) : Int:=if mkFault v l = 0 then (tS v l).2.2.getLastD 0 else 0
theorem tmE_ok {v : List St} {l : List Mk} (h : mkFault v l = 0) : tmE v l = (tS v l).2.2.getLastD 0:=by simp [tmE,h]
theorem tmE_bad {v : List St} {l : List Mk} (h : ¬ mkFault v l = 0) : tmE v l = 0:=by simp [tmE,h]
theorem mkFault_zero {v : List St} {l : List Mk} (h : mkFault v l = 0) : vFault v = 0 ∧ mkF (fsum v) l = 0:=by
 by_cases h0 : vFault v = 0
 ·exact ⟨h0,by rw [mkFault_ok h0] at h; exact h⟩
 ·rw [mkFault_bad h0] at h; exact absurd h h0
theorem tS_some (v : List St) (l : List Mk) (h : ∃ x ∈ l,x.2 = 2) : 0 < (tS v l).2.2.length:=by
 suffices H : ∀ s : Int × Int × List Int,(0 < s.2.2.length ∨ ∃ x ∈ l,x.2 = 2) → 0 < (l.foldl (tstep v) s).2.2.length from H _ (.inr h)
 clear h
 induction l with
 | nil => intro s h; rcases h with h | ⟨x,hx,_⟩; exact h; simp at hx
 | cons y l ih =>
  intro s h
  rw [List.foldl_cons]
  apply ih
  by_cases h1 : y.2 = 1 ∨ y.2 = 4
  ·rw [tstep_on _ _ _ h1]
   rcases h with h | ⟨x,hx,h2⟩
   ·exact .inl h
   ·rcases List.mem_cons.1 hx with rfl | hx
    ·omega
    ·exact .inr ⟨x,hx,h2⟩
  ·by_cases h3 : y.2 = 3
   ·rw [tstep_off _ _ _ h3]
    rcases h with h | ⟨x,hx,h2⟩
    ·exact .inl h
    ·rcases List.mem_cons.1 hx with rfl | hx
     ·omega
     ·exact .inr ⟨x,hx,h2⟩
   ·rw [tstep_out _ _ _ h1 h3]
    exact .inl (by simp)
theorem last_mem (l : List Mk) (h : lastM l = 2) : ∃ x ∈ l,x.2 = 2:=by
 suffices H : ∀ a : Int,l.foldl (fun a (x : Mk) => if x.2 = 5 then a else x.2) a = 2 → a = 2 ∨ ∃ x ∈ l,x.2 = 2 from by
  rcases H 0 h with h | h
  ·omega
  ·exact h
 clear h
 induction l with
 | nil => intro a h; exact .inl h
 | cons y l ih =>
  intro a h
  rw [List.foldl_cons] at h
  rcases ih _ h with h | ⟨x,hx,h2⟩
  ·by_cases h5 : y.2 = 5
   ·rw [if_pos h5] at h; exact .inl h
   ·rw [if_neg h5] at h; exact .inr ⟨y,by simp,h⟩
  ·exact .inr ⟨x,by simp [hx],h2⟩

set_option maxHeartbeats 1000000 in
theorem timed_any (lo lo' c d : Nat) (A B : Option Addr) (v : List St) (l : List Mk) (w : World) (hr : Row w lo 3 A v.length (trs v)) (hrm : Row w lo' 2 B l.length (prs l)) (hl : v.length ≤ 1000000000) (hlm : l.length ≤ 1000000000) (hi : ∀ s ∈ v,s.2.1 ≤ 9223372036854775807) :
  Calls Tryz.prog 45 #[.slice A v.length c,.slice B l.length d] w fun e w' => e = .returned (.tuple #[.int .i64 (tmE v l),.int .i64 (mkFault v l)]) ∧ Below w.heap.size w w':=by
 go_enter Tryz.func45,Tryz.ntmps45
 go_wp2_with fail
 refine (checkMarks_any lo lo' _ _ _ _ v l _ hr hrm hl hlm hi).mono ?_
 rintro e w1 ⟨rfl,hb1⟩
 clear hi
 by_cases h0 : mkFault v l = 0
 ·have h0' : (mkFault v l != 0) = false:=by simpa using h0
  obtain ⟨hv,hm⟩:=mkFault_zero h0
  have HG:=Lib.hid (vFault_ok hv)
  have HM:=Lib.hid (mkF_ok hm)
  have H0:=Lib.hid h0
  clear h0 hv hm
  have hln:=HM.out.1
  have hsum:=HG.out.sum
  go_wp2_with fail
  refine (newFilm_any _ _ _ v _ (hr.below hb1) HG.out).mono ?_
  rintro e w2 ⟨g,rfl,hfm,hb2⟩
  have hx:=below_up hb1 hb2
  go_wp2_with fail
  refine (end_any g lo lo' _ _ _ _ v l _ hfm (hrm.below hx) HG.out (by omega) HM.out.2.2.2.1 (fun x hx => by have:=HM.out.2.2.1 x hx; omega) (tS_some v l (last_mem l HM.out.2.1))).mono ?_
  rintro e w3 ⟨rfl,hb3⟩
  go_wp2_with fail
  go_ret2
  exact ⟨ret2_is (by rw [tmE_ok H0.out,List.getLastD_eq_getLast?]; rfl) (by rw [H0.out]; rfl),below_up hx hb3⟩
 ·have h0' : (mkFault v l != 0) = true:=by simpa using h0
  have H0:=Lib.hid h0
  clear h0
  go_wp2_with fail
  go_ret2
  exact ⟨ret2_is (by rw [tmE_bad H0.out]; rfl) rfl,hb1⟩

theorem film_ex : mkFault [(100,60,1)] [(10,1),(70,2)] = 0:=by decide
theorem time_ex : tmE [(100,60,1)] [(10,1),(70,2)] = 1000:=by decide

end Go.Proofs.YtbfphnknkbhpkaaGreatDoor
