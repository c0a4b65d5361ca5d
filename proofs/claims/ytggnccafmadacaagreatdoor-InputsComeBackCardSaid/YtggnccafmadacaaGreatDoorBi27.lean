/- Texts of this seat, laid together: MgA. -/
import Derived.Handy
import Derived.Test.YtggnccafmadacaaGreatDoorBi25
import Derived.Test.YtggnccafmadacaaGreatDoorBi26
import Derived.Test.YtggnccafmadacaaGreatDoorBi10
/- The walks of what compares histories, of the search for an attempt and of its copy. -/
namespace Go.Proofs.YtggnccafmadacaaGreatDoor
set_option linter.unusedVariables false
set_option linter.unusedSimpArgs false
open Go.RowKit Go.Sort

theorem equalS_any (A B : Option Addr) (c d lo lo' : Nat) (ps qs : List (List UInt8)) (w : World) (hr : Row w lo 1 A ps.length (strs ps)) (hr' : Row w lo' 1 B qs.length (strs qs)) (hl : ps.length ≤ 1000000000) (hl' : qs.length ≤ 1000000000) :
  Calls Tryz.prog 14 #[.slice A ps.length c,.slice B qs.length d] w fun e w' => e = .returned (.bool (decide (ps = qs))) ∧ ∃ q,w' = w.drewN q:=by
 by_cases hlen : ps.length = qs.length
 ·have h0 : ((ps.length : Int) != (qs.length : Int)) = false:=by simp [hlen]
  have HLEN:=Lib.hid hlen
  clear hlen
  go_enter Tryz.func14,Tryz.ntmps14
  go_wp2_with fail
  go_loopw [13] (fun i wr => ∃ (k : Nat) (q : Nat),k ≤ ps.length ∧ i = .int .i64 k ∧ Hid (ps.take k = qs.take k) ∧ wr = w.drewN q) (fun i _ => ps.length - (intOf i).toNat)
  case atStart => exact ⟨0,0,Nat.zero_le _,rfl,Lib.hid rfl,rfl⟩
  case round =>
   obtain ⟨k,q,hk,rfl,htk,rfl⟩:=hrel
   by_cases hlt : k < ps.length
   ·obtain ⟨b,off,rfl,_,hbs,c0⟩:=hr.str_at hlt
    have hlt' : k < qs.length:=by have:=HLEN.out; omega
    obtain ⟨b',off',rfl,_,hbs',d0⟩:=hr'.str_at hlt'
    by_cases he : ps[k] = qs[k]
    ·have HN : Hid (ps.take (k + 1) = qs.take (k + 1)):=Lib.hid (by rw [List.take_succ_eq_append_getElem hlt,List.take_succ_eq_append_getElem hlt',htk.out,he])
     rw [← he] at d0
     clear he
     unfold encStr at c0 d0
     generalize ps[k] = y at *
     have e1 : (y != y) = false:=by simp
     go_wp2_with fail
     go_quiet (fail)
     go_wp2_with fail
     go_roundw
     case rel => exact ⟨k + 1,_,by omega,by go_num,HN,rfl⟩
     case measure => simp [intOf]; omega
    ·have HN : Hid (¬ ps = qs):=Lib.hid (fun h => he (by subst h; rfl))
     have e1 : (ps[k] != qs[k]) = true:=by simpa using he
     have e2 : (ps[k] == qs[k]) = false:=by simpa using he
     clear he
     unfold encStr at c0 d0
     generalize ps[k] = y at *
     generalize qs[k] = z at *
     go_wp2_with fail
     go_quiet (fail)
     go_wp2_with fail
     go_ret
     exact ⟨ret_bool' (by simp [HN.out]),_,World.drewN_drewN _ _ _⟩
   ·have HN : Hid (ps = qs):=Lib.hid (by
     have:=htk.out
     have hh:=HLEN.out
     rwa [List.take_of_length_le (by omega),List.take_of_length_le (by omega)] at this)
    go_wp2_with fail
    go_ret
    exact ⟨ret_bool' (by simp [HN.out]),_,rfl⟩
 ·have HN : Hid (¬ ps = qs):=Lib.hid (fun h => hlen (by rw [h]))
  have h0 : ((ps.length : Int) != (qs.length : Int)) = true:=by simp; omega
  clear hlen
  go_enter Tryz.func14,Tryz.ntmps14
  go_wp2_with fail
  go_ret
  exact ⟨ret_bool' (by simp [HN.out]),0,rfl⟩

theorem sameAttempt_any (x y : Int) (A B : Option Addr) (c d lo lo' : Nat) (ps qs : List Int) (w : World) (hr : Row w lo 1 A ps.length (ints ps)) (hr' : Row w lo' 1 B qs.length (ints qs)) (hl : ps.length ≤ 1000000000) (hl' : qs.length ≤ 1000000000) :
  Calls Tryz.prog 91 #[.agg #[.int .i64 x,.slice A ps.length c],.agg #[.int .i64 y,.slice B qs.length d]] w fun e w' => e = .returned (.bool (decide ((x,ps) = (y,qs)))) ∧ Below w.heap.size w w':=by
 by_cases hxy : x = y
 ·subst hxy
  have e1 : (x == x) = true:=by simp
  go_enter Tryz.func91,Tryz.ntmps91
  go_wp2_with fail
  refine (equalI_any A B c d lo lo' ps qs _ ((hr.alloc _).alloc _) ((hr'.alloc _).alloc _) hl hl').mono ?_
  rintro e w1 ⟨rfl,q,rfl⟩
  go_wp2_with fail
  go_ret
  exact ⟨ret_bool' (by simp),(by repeat (first | exact Below.refl _ _ | refine Below.alloc ?_ (by first | omega | (simp; omega) | simp) _ | refine below_drewN' ?_ _ | refine Below.drew ?_))⟩
 ·have e1 : (x == y) = false:=by simpa using hxy
  have HN : Hid (¬ (x,ps) = (y,qs)):=Lib.hid (fun h => hxy (congrArg Prod.fst h))
  clear hxy
  go_enter Tryz.func91,Tryz.ntmps91
  go_wp2_with fail
  go_ret
  exact ⟨ret_bool' (by simp [HN.out]),(by repeat (first | exact Below.refl _ _ | refine Below.alloc ?_ (by first | omega | (simp; omega) | simp) _ | refine below_drewN' ?_ _ | refine Below.drew ?_))⟩

theorem Hist.splen {w : World} {lo : Nat} {SA TA : Option Addr} {segs : List (List UInt8)} {atts : List Att} (h : Hist w lo SA TA segs atts) : Row w lo 1 SA segs.length (strs segs):=h.1
theorem equalFuncA_any (SA TA SB TB : Option Addr) (c d lo lo' : Nat) (ss ss' : List (List UInt8)) (ps qs : List Att) (w : World) (hA : Hist w lo SA TA ss ps) (hB : Hist w lo' SB TB ss' qs) (hl : ps.length ≤ 1000000000) (hl' : qs.length ≤ 1000000000)
  (hp : ∀ i (h : i < ps.length),ps[i].2.length ≤ 1000000000) (hq : ∀ i (h : i < qs.length),qs[i].2.length ≤ 1000000000) :
  Calls Tryz.prog 93 #[.slice TA ps.length c,.slice TB qs.length d,.func (.func 91) #[] #[]] w fun e w' => e = .returned (.bool (decide (ps = qs))) ∧ Below w.heap.size w w':=by
 have HP:=Lib.hid hp
 have HQ:=Lib.hid hq
 clear hp hq
 by_cases hlen : ps.length = qs.length
 ·have h0 : ((ps.length : Int) != (qs.length : Int)) = false:=by simp [hlen]
  have HLEN:=Lib.hid hlen
  clear hlen
  go_enter Tryz.func93,Tryz.ntmps93
  go_wp2_with fail
  go_loopw [17] (fun i wr => ∃ (k : Nat),k ≤ ps.length ∧ i = .int .i64 k ∧ Hid (ps.take k = qs.take k) ∧ Below w.heap.size w wr) (fun i _ => ps.length - (intOf i).toNat)
  case atStart => exact ⟨0,Nat.zero_le _,rfl,Lib.hid rfl,Below.refl _ _⟩
  case round =>
   obtain ⟨k,hk,rfl,htk,hbw⟩:=hrel
   have hz:=hbw.size
   by_cases hlt : k < ps.length
   ·obtain ⟨b,off,B,cB,rfl,hbs,c0,c1,hrB⟩:=(hA.below hbw).att hlt
    have hlt' : k < qs.length:=by have:=HLEN.out; omega
    obtain ⟨b',off',B',cB',rfl,hbs',d0,d1,hrB'⟩:=(hB.below hbw).att hlt'
    have hpl:=HP.out k hlt
    have hql:=HQ.out k hlt'
    have HT : Hid (ps[k] = qs[k] → ps.take (k + 1) = qs.take (k + 1)):=Lib.hid (fun he => by rw [List.take_succ_eq_append_getElem hlt,List.take_succ_eq_append_getElem hlt',htk.out,he])
    have HF : Hid (¬ ps[k] = qs[k] → ¬ ps = qs):=Lib.hid (fun he h => he (by subst h; rfl))
    generalize ps[k] = x at *
    generalize qs[k] = y at *
    obtain ⟨x1,x2⟩:=x
    obtain ⟨y1,y2⟩:=y
    dsimp only at *
    go_wp2_with fail
    refine (sameAttempt_any x1 y1 B B' cB cB' lo lo' x2 y2 _ ((hrB.alloc _).alloc _) ((hrB'.alloc _).alloc _) hpl hql).mono ?_
    rintro e w1 ⟨rfl,hb1⟩
    by_cases he : (x1,x2) = (y1,y2)
    ·have HN:=Lib.hid (HT.out he)
     rw [decide_eq_true he]
     clear he HT HF
     go_wp2_with fail
     go_roundw
     case rel => exact ⟨k + 1,by omega,by go_num,HN,below_up (by repeat (first | exact hbw | refine Below.alloc ?_ (by first | omega | (simp; omega) | simp) _ | refine below_drewN' ?_ _ | refine Below.drew ?_)) hb1⟩
     case measure => simp [intOf]; omega
    ·have HN:=Lib.hid (HF.out he)
     rw [decide_eq_false he]
     clear he HT HF
     go_wp2_with fail
     go_ret
     exact ⟨ret_bool' (by simp [HN.out]),below_up (by repeat (first | exact hbw | refine Below.alloc ?_ (by first | omega | (simp; omega) | simp) _ | refine below_drewN' ?_ _ | refine Below.drew ?_)) hb1⟩
   ·have HN : Hid (ps = qs):=Lib.hid (by
     have:=htk.out
     have hh:=HLEN.out
     rwa [List.take_of_length_le (by omega),List.take_of_length_le (by omega)] at this)
    go_wp2_with fail
    go_ret
    exact ⟨ret_bool' (by simp [HN.out]),hbw⟩
 ·have HN : Hid (¬ ps = qs):=Lib.hid (fun h => hlen (by rw [h]))
  have h0 : ((ps.length : Int) != (qs.length : Int)) = true:=by simp; omega
  clear hlen
  go_enter Tryz.func93,Tryz.ntmps93
  go_wp2_with fail
  go_ret
  exact ⟨ret_bool' (by simp [HN.out]),Below.refl _ _⟩
theorem sameHistory_any (SA TA SB TB : Option Addr) (c d c' d' lo lo' : Nat) (ss ss' : List (List UInt8)) (ps qs : List Att) (w : World) (hA : Hist w lo SA TA ss ps) (hB : Hist w lo' SB TB ss' qs) (hs : ss.length ≤ 1000000000) (hs' : ss'.length ≤ 1000000000) (hl : ps.length ≤ 1000000000) (hl' : qs.length ≤ 1000000000)
  (hp : ∀ i (h : i < ps.length),ps[i].2.length ≤ 1000000000) (hq : ∀ i (h : i < qs.length),qs[i].2.length ≤ 1000000000) :
  Calls Tryz.prog 32 #[.agg #[.slice SA ss.length c,.slice TA ps.length d],.agg #[.slice SB ss'.length c',.slice TB qs.length d']] w fun e w' => e = .returned (.bool (decide (ss = ss' ∧ ps = qs))) ∧ Below w.heap.size w w':=by
 go_enter Tryz.func32,Tryz.ntmps32
 go_wp2_with fail
 have hA2:=(hA.alloc (.cells #[.slice SA ss.length c,.slice TA ps.length d] 56)).alloc (.cells #[.slice SB ss'.length c',.slice TB qs.length d'] 56)
 have hB2:=(hB.alloc (.cells #[.slice SA ss.length c,.slice TA ps.length d] 56)).alloc (.cells #[.slice SB ss'.length c',.slice TB qs.length d'] 56)
 refine (equalS_any SA SB c c' lo lo' ss ss' _ hA2.1 hB2.1 hs hs').mono ?_
 rintro e w1 ⟨rfl,q,rfl⟩
 by_cases he : ss = ss'
 ·rw [decide_eq_true he]
  have HE:=Lib.hid he
  clear he
  go_wp2_with fail
  refine (equalFuncA_any SA TA SB TB d d' lo lo' ss ss' ps qs _ (hA2.below (below_drewN' (Below.refl _ _) q)) (hB2.below (below_drewN' (Below.refl _ _) q)) hl hl' hp hq).mono ?_
  rintro e w2 ⟨rfl,hb⟩
  go_wp2_with fail
  go_ret
  exact ⟨ret_bool' (by simp [HE.out]),below_up (by repeat (first | exact Below.refl _ _ | refine Below.alloc ?_ (by first | omega | (simp; omega) | simp) _ | refine below_drewN' ?_ _ | refine Below.drew ?_)) hb⟩
 ·rw [decide_eq_false he]
  have HE:=Lib.hid he
  clear he
  go_wp2_with fail
  go_ret
  exact ⟨ret_bool' (by simp [HE.out]),(by repeat (first | exact Below.refl _ _ | refine Below.alloc ?_ (by first | omega | (simp; omega) | simp) _ | refine below_drewN' ?_ _ | refine Below.drew ?_))⟩

theorem mergeCmp1_any (x y : Int) (v : Value) (w : World) : Calls Tryz.prog 84 #[.agg #[.int .i64 x,v],.int .i64 y] w fun e w' => e = .returned (.int .i64 (cmpI x y)) ∧ Below w.heap.size w w':=by
 go_enter Tryz.func84,Tryz.ntmps84
 go_wp2_with fail
 refine (cmpInt_any _ _ _).mono ?_
 rintro e w1 ⟨rfl,rfl⟩
 go_wp2_with fail
 go_ret
 exact ⟨rfl,(by repeat (first | exact Below.refl _ _ | refine Below.alloc ?_ (by first | omega | (simp; omega) | simp) _ | refine below_drewN' ?_ _ | refine Below.drew ?_))⟩
def Found (ps : List Att) (no : Int) (r : Nat) (b : Bool) : Prop:=r ≤ ps.length ∧ (b = true → ∃ h : r < ps.length,ps[r].1 = no) ∧ (b = false → ∀ i (h : i < ps.length),ps[i].1 ≠ no)
theorem half_shr (i j : Nat) (h : i + j < 9223372036854775807) : ((i + j) / 2 : Nat) = (((i : Int) + (j : Int)).toNat / 2):=by omega
theorem searchA_any (SA TA : Option Addr) (c lo : Nat) (ss : List (List UInt8)) (ps : List Att) (no : Int) (w : World) (hA : Hist w lo SA TA ss ps) (hl : ps.length ≤ 1000000000) (hup : ∀ i (h : i + 1 < ps.length),ps[i].1 < ps[i + 1].1) :
  Calls Tryz.prog 83 #[.slice TA ps.length c,.int .i64 no,.func (.func 84) #[] #[]] w fun e w' => ∃ (r : Nat) (b : Bool),e = .returned (.tuple #[.int .i64 r,.bool b]) ∧ Found ps no r b ∧ Below w.heap.size w w':=by
 have HM : Hid (∀ i j (hj : j < ps.length) (hij : i < j),(ps[i]'(by omega)).1 < ps[j].1):=Lib.hid (by
  intro i j hj hij
  induction j with
  | zero => omega
  | succ j ih =>
   have h1:=hup j hj
   rcases Nat.lt_or_ge i j with h | h
   ·have:=ih (by omega) h; omega
   ·have : i = j:=by omega
    subst this; exact h1)
 clear hup
 go_enter Tryz.func83,Tryz.ntmps83
 go_wp2_with fail
 go_loopw [9,10] (fun i j wr => ∃ (a b : Nat),a ≤ b ∧ b ≤ ps.length ∧ i = .int .i64 a ∧ j = .int .i64 b ∧ Hid (∀ k (h : k < ps.length),k < a → ps[k].1 < no) ∧ Hid (∀ k (h : k < ps.length),b ≤ k → no ≤ ps[k].1) ∧ Below w.heap.size w wr) (fun i j _ => (intOf j).toNat - (intOf i).toNat)
 case atStart => exact ⟨0,ps.length,Nat.zero_le _,Nat.le_refl _,rfl,rfl,Lib.hid (fun k h h2 => absurd h2 (Nat.not_lt_zero _)),Lib.hid (fun k h h2 => by omega),Below.refl _ _⟩
 case round =>
  obtain ⟨a,b,hab,hbl,rfl,rfl,HL,HR,hbw⟩:=hrel
  have hz:=hbw.size
  by_cases hlt : a < b
  ·have hma : a ≤ (a + b) / 2:=by omega
   have hmb : (a + b) / 2 < b:=by omega
   have hm0 : (a + b) / 2 < ps.length:=by omega
   have hw1 : IntKind.i64.wrap ((a : Int) + (b : Int)) = (a : Int) + (b : Int):=IntWalk.i64_in _ (by omega)
   obtain ⟨bb,off,B,cB,rfl,hbs,c0,c1,hrB⟩:=(hA.below hbw).att hm0
   have HLT : Hid (ps[(a + b) / 2].1 < no → ∀ k (h : k < ps.length),k < (a + b) / 2 + 1 → ps[k].1 < no):=Lib.hid (fun hh k h hk => by
    rcases Nat.lt_or_ge k ((a + b) / 2) with h1 | h1
    ·have:=HM.out k ((a + b) / 2) hm0 h1; omega
    ·have : k = (a + b) / 2:=by omega
     subst this; exact hh)
   have HGE : Hid (no ≤ ps[(a + b) / 2].1 → ∀ k (h : k < ps.length),(a + b) / 2 ≤ k → no ≤ ps[k].1):=Lib.hid (fun hh k h hk => by
    rcases Nat.lt_or_ge ((a + b) / 2) k with h1 | h1
    ·have:=HM.out ((a + b) / 2) k h h1; omega
    ·have : k = (a + b) / 2:=by omega
     subst this; exact hh)
   generalize hx : ps[(a + b) / 2].1 = x at *
   generalize hv : (Value.slice B ps[(a + b) / 2].2.length cB) = v at *
   clear hx hrB hv
   go_wp2_with fail
   refine (mergeCmp1_any x no v _).mono ?_
   rintro e w1 ⟨rfl,hb1⟩
   by_cases hlt2 : x < no
   ·have HN:=Lib.hid (HLT.out hlt2)
    have hC : cmpI x no = -1:=by simp [cmpI,hlt2]
    rw [hC]
    clear hC HLT HGE hlt2
    go_wp2_with fail
    go_roundw
    case rel => exact ⟨(a + b) / 2 + 1,b,by omega,hbl,by go_num,rfl,HN,HR,below_up hbw hb1⟩
    case measure => simp [intOf]; omega
   ·have HN:=Lib.hid (HGE.out (by omega))
    have hC : decide (cmpI x no < 0) = false:=by
     have:=cmpI_lt x no
     simp only [decide_eq_false_iff_not]; omega
    clear HLT HGE hlt2
    go_wp2_with fail
    go_roundw
    case rel => exact ⟨a,(a + b) / 2,hma,by omega,rfl,by go_num,HL,HN,below_up hbw hb1⟩
    case measure => simp [intOf]; omega
  ·have hab' : a = b:=by omega
   subst hab'
   clear hab
   by_cases hal : a < ps.length
   ·obtain ⟨bb,off,B,cB,rfl,hbs,c0,c1,hrB⟩:=(hA.below hbw).att hal
    have HY : Hid (ps[a].1 = no → Found ps no a true):=Lib.hid (fun h => ⟨by omega,fun _ => ⟨hal,h⟩,fun h => by cases h⟩)
    have HNO : Hid (¬ ps[a].1 = no → Found ps no a false):=Lib.hid (fun h => ⟨by omega,fun h => (by cases h),fun _ i hi he => by
     rcases Nat.lt_trichotomy i a with h1 | h1 | h1
     ·have:=HL.out i hi h1; omega
     ·subst h1; exact h he
     ·have h2:=HR.out a hal (Nat.le_refl _)
      have h3:=HM.out a i hi h1
      omega⟩)
    generalize hx : ps[a].1 = x at *
    generalize hv : (Value.slice B ps[a].2.length cB) = v at *
    clear hx hrB hv
    go_wp2_with fail
    refine (mergeCmp1_any x no v _).mono ?_
    rintro e w1 ⟨rfl,hb1⟩
    by_cases hxn : x = no
    ·have HN:=Lib.hid (HY.out hxn)
     have hC : cmpI x no = 0:=by subst hxn; simp [cmpI]
     rw [hC]
     clear hC HY HNO hxn
     go_wp2_with fail
     go_returns
     exact ⟨a,true,rfl,HN.out,below_up hbw hb1⟩
    ·have HN:=Lib.hid (HNO.out hxn)
     have hC : (cmpI x no == 0) = false:=by
      simpa [cmpI_eq] using hxn
     clear HY HNO hxn
     go_wp2_with fail
     go_returns
     exact ⟨a,false,rfl,HN.out,below_up hbw hb1⟩
   ·have hal' : a = ps.length:=by omega
    have HN : Hid (Found ps no a false):=Lib.hid ⟨hbl,fun h => (by cases h),fun _ i hi he => by
     have:=HL.out i hi (by omega); omega⟩
    subst hal'
    clear hal
    go_wp2_with fail
    go_returns
    exact ⟨ps.length,false,rfl,HN.out,hbw⟩
end Go.Proofs.YtggnccafmadacaaGreatDoor
