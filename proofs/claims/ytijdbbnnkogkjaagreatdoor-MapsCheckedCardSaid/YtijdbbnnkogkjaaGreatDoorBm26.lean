/- Texts of this seat, laid together: WkA. -/
import Derived.Test.YtijdbbnnkogkjaaGreatDoorBm25
import Derived.Test.YtijdbbnnkogkjaaGreatDoorBm22
/- The world of a map in memory, and what is read of it: bits. -/
namespace Go.Proofs.YtijdbbnnkogkjaaGreatDoor
set_option linter.unusedVariables false
set_option linter.unusedSimpArgs false
open Go.RowKit

theorem nanS_any (x : List UInt8) (w : World) : Calls Tryz.prog 189 #[.string ⟨x.toArray⟩] w fun e w' => e = .returned (.bool false) ∧ w = w':=by
 have h : (x == x) = true:=by simp
 go_enter Tryz.func189,Tryz.ntmps189
 go_wp2_with fail
 go_ret
 exact ⟨rfl,rfl⟩
theorem nanC_any (x : List UInt8) (w : World) : Calls Tryz.prog 218 #[.string ⟨x.toArray⟩] w fun e w' => e = .returned (.bool false) ∧ w = w':=by
 have h : (x == x) = true:=by simp
 go_enter Tryz.func218,Tryz.ntmps218
 go_wp2_with fail
 go_ret
 exact ⟨rfl,rfl⟩
theorem lessS_any (x y : List UInt8) (w : World) : Calls Tryz.prog 179 #[.string ⟨x.toArray⟩,.string ⟨y.toArray⟩] w fun e w' => e = .returned (.bool (decide (x < y))) ∧ w = w':=by
 have h:=bytesLess_eq x y
 obtain ⟨p,hp⟩ : ∃ p,decide (x < y) = p:=⟨_,rfl⟩
 rw [hp] at h ⊢
 clear hp
 go_enter Tryz.func179,Tryz.ntmps179
 go_wp2_with fail
 refine (nanC_any x _).mono ?_
 rintro e w1 ⟨rfl,rfl⟩
 go_wp2_with fail
 go_ret
 exact ⟨rfl,rfl⟩
def FsPost (w : World) (l : List (List UInt8)) (key : List UInt8) (e : Ending) (w' : World) : Prop:=∃ (r : Nat) (b : Bool),e = .returned (.tuple #[.int .i64 r,.bool b]) ∧ FoundS l key r b ∧ w = w'
set_option maxHeartbeats 1000000 in
theorem searchS_any (lo c : Nat) (A : Option Addr) (l : List (List UInt8)) (key : List UInt8) (w : World) (hr : Row w lo 1 A l.length (strs l)) (hup : l.Pairwise (· < ·)) (hl : l.length ≤ 1000000000) :
  Calls Tryz.prog 145 #[.slice A l.length c,.string ⟨key.toArray⟩] w (FsPost w l key):=by
 have HM : Hid (∀ i j (hj : j < l.length) (hij : i < j),l[i]'(by omega) < l[j]):=Lib.hid (fun i j hj hij => List.pairwise_iff_getElem.1 hup i j (by omega) hj hij)
 clear hup
 go_enter Tryz.func145,Tryz.ntmps145
 go_wp2_with fail
 go_loop [7,8] (fun i j => ∃ (a b : Nat),a ≤ b ∧ b ≤ l.length ∧ i = .int .i64 a ∧ j = .int .i64 b ∧ Hid (∀ k (h : k < l.length),k < a → l[k] < key) ∧ Hid (∀ k (h : k < l.length),b ≤ k → ¬ l[k] < key)) (fun i j => (intOf j).toNat - (intOf i).toNat)
 case atStart => exact ⟨0,l.length,Nat.zero_le _,Nat.le_refl _,rfl,rfl,Lib.hid (fun k h h2 => absurd h2 (Nat.not_lt_zero _)),Lib.hid (fun k h h2 => by omega)⟩
 case round =>
  obtain ⟨a,b,hab,hbl,rfl,rfl,HL,HR⟩:=hrel
  by_cases hlt : a < b
  ·have hma : a ≤ (a + b) / 2:=by omega
   have hmb : (a + b) / 2 < b:=by omega
   have hm0 : (a + b) / 2 < l.length:=by omega
   have hw1 : IntKind.i64.wrap ((a : Int) + (b : Int)) = (a : Int) + (b : Int):=IntWalk.i64_in _ (by omega)
   obtain ⟨bb,off,rfl,hbs,hcell⟩:=strs_at hr (show 0 < l.length by omega)
   have HLT : Hid (l[(a + b) / 2] < key → ∀ k (h : k < l.length),k < (a + b) / 2 + 1 → l[k] < key):=Lib.hid (fun hh k h hk => by
    rcases Nat.lt_or_ge k ((a + b) / 2) with h1 | h1
    ·exact ltS_trans (HM.out k ((a + b) / 2) hm0 h1) hh
    ·have : k = (a + b) / 2:=by omega
     subst this; exact hh)
   have HGE : Hid (¬ l[(a + b) / 2] < key → ∀ k (h : k < l.length),(a + b) / 2 ≤ k → ¬ l[k] < key):=Lib.hid (fun hh k h hk => by
    rcases Nat.lt_or_ge ((a + b) / 2) k with h1 | h1
    ·exact fun h2 => hh (ltS_trans (HM.out ((a + b) / 2) k h h1) h2)
    ·have : k = (a + b) / 2:=by omega
     subst this; exact hh)
   have y0:=hcell ((a + b) / 2) hm0
   clear hcell
   generalize l[(a + b) / 2] = x at *
   simp only [encStr] at y0
   go_wp2_with fail
   refine (lessS_any x key _).mono ?_
   rintro e w1 ⟨rfl,rfl⟩
   clear y0
   by_cases hlt2 : x < key
   ·have HN:=Lib.hid (HLT.out hlt2)
    have hC : decide (x < key) = true:=decide_eq_true hlt2
    rw [hC]
    clear HLT HGE hlt2 hC
    go_wp2_with fail
    go_round
    case rel => exact ⟨(a + b) / 2 + 1,b,by omega,hbl,by go_num,rfl,HN,HR⟩
    case measure => simp [intOf]; omega
   ·have HN:=Lib.hid (HGE.out hlt2)
    have hC : decide (x < key) = false:=decide_eq_false hlt2
    rw [hC]
    clear HLT HGE hlt2 hC
    go_wp2_with fail
    go_round
    case rel => exact ⟨a,(a + b) / 2,hma,by omega,rfl,by go_num,HL,HN⟩
    case measure => simp [intOf]; omega
  ·have hab' : a = b:=by omega
   subst hab'
   clear hab
   by_cases hal : a < l.length
   ·obtain ⟨bb,off,rfl,hbs,hcell⟩:=strs_at hr (show 0 < l.length by omega)
    have HY : Hid (l[a] = key → FoundS l key a true):=Lib.hid (fun h => ⟨by omega,fun _ => ⟨hal,h⟩,fun h => by cases h⟩)
    have HNO : Hid (¬ l[a] = key → FoundS l key a false):=Lib.hid (fun h => ⟨by omega,fun h => (by cases h),fun _ hi => by
     obtain ⟨i,hi',he'⟩:=List.getElem_of_mem hi
     rcases Nat.lt_trichotomy i a with h1 | h1 | h1
     ·have:=HL.out i hi' h1; rw [he'] at this; exact ltS_irr _ this
     ·subst h1; exact h he'
     ·have h2:=HR.out a hal (Nat.le_refl _)
      have h3:=HM.out a i hi' h1
      rw [he'] at h3
      exact h2 h3⟩)
    have y0:=hcell a hal
    clear hcell
    generalize l[a] = x at *
    simp only [encStr] at y0
    by_cases he : x = key
    ·have HF:=Lib.hid (HY.out he)
     have hC : (x == key) = true:=beq_iff_eq.2 he
     clear HY HNO he
     go_wp2_with fail
     go_ret2
     exact ⟨a,true,rfl,HF.out,rfl⟩
    ·have HF:=Lib.hid (HNO.out he)
     have hC : (x == key) = false:=beq_eq_false_iff_ne.2 he
     clear HY HNO he
     go_wp2_with fail
     refine (nanS_any x _).mono ?_
     rintro e w1 ⟨rfl,rfl⟩
     go_wp2_with fail
     go_ret2
     exact ⟨a,false,rfl,HF.out,rfl⟩
   ·have hae : a = l.length:=by omega
    have HF : Hid (FoundS l key a false):=Lib.hid ⟨by omega,fun h => (by cases h),fun _ hi => by
     obtain ⟨i,hi',he'⟩:=List.getElem_of_mem hi
     have:=HL.out i hi' (by omega); rw [he'] at this; exact ltS_irr _ this⟩
    have hnl : ¬ a < l.length:=by omega
    clear hal hae
    go_wp2_with fail
    go_ret2
    exact ⟨a,false,rfl,HF.out,rfl⟩
theorem shl_sm (n : Nat) (hn : n < 10) : IntKind.i64.wrap ((2 : Int) ^ n) = (2 : Int) ^ n:=by
 have : ∀ k : Fin 10,IntKind.i64.wrap ((2 : Int) ^ k.val) = (2 : Int) ^ k.val:=by decide
 exact this ⟨n,hn⟩
theorem bits_add {T l : List (List UInt8)} (hT : T.length ≤ 10) {k r : Nat} (hk : k < l.length) (hr : r < T.length) (hup : T.Pairwise (· < ·)) (h : T[r] = l[k]) :
  bits .or .i64 (bitsT T (l.take k) : Int) ((2 : Int) ^ r) = (bitsT T (l.take (k + 1)) : Int):=by
 have e1 : ((2 : Int) ^ r) = ((bitsN T.length (fun i => i == r) : Nat) : Int):=by rw [bitsN_one hr]; simp
 rw [e1]
 unfold bitsT
 rw [bits_orN (by omega)]
 congr 1
 refine bitsN_congr fun i hi => ?_
 have hm : ∀ x,x ∈ l.take (k + 1) ↔ x ∈ l.take k ∨ x = l[k]:=fun x => by rw [List.take_succ_eq_append_getElem hk,List.mem_append,List.mem_singleton]
 have h3:=hm T[i]
 have : T.getD i [] = T[i]:=by rw [List.getD_eq_getElem?_getD,List.getElem?_eq_getElem hi]; rfl
 rw [this]
 have h2 : (T[i] = l[k]) ↔ i = r:=by
  rw [← h]
  constructor
  ·intro e
   rcases Nat.lt_trichotomy i r with h1 | h1 | h1
   ·have:=List.pairwise_iff_getElem.1 hup i r hi hr h1; rw [e] at this; exact absurd this (ltS_irr _)
   ·exact h1
   ·have:=List.pairwise_iff_getElem.1 hup r i hr hi h1; rw [e] at this; exact absurd this (ltS_irr _)
  ·rintro rfl; rfl
 rw [h2] at h3
 clear hm h2 this h
 generalize T[i] = x at *
 by_cases a : x ∈ l.take k
 ·rw [decide_eq_true a,decide_eq_true (h3.2 (.inl a)),Bool.true_or]
 ·by_cases b : i = r
  ·rw [decide_eq_true (h3.2 (.inr b)),beq_iff_eq.2 b,Bool.or_true]
  ·rw [decide_eq_false a,beq_eq_false_iff_ne.2 b,decide_eq_false (fun e => (h3.1 e).elim a b),Bool.or_false]
set_option maxHeartbeats 1000000 in
theorem bits_any (p tc lo lo2 c : Nat) (TA A : Option Addr) (T l : List (List UInt8)) (w : World) (hp : w.cell? ⟨p,1,none⟩ = some (.slice TA T.length tc)) (hT : Row w lo 1 TA T.length (strs T)) (hup : T.Pairwise (· < ·)) (hfew : T.length ≤ 10) (hr : Row w lo2 1 A l.length (strs l)) (hl : l.length ≤ 1000000000) (hsub : ∀ x ∈ l,x ∈ T) :
  Calls Tryz.prog 100 #[.pointer (some ⟨p,0,none⟩),.slice A l.length c] w fun e w' => e = .returned (.int .i64 (bitsT T l)) ∧ w = w':=by
 have HS:=Lib.hid hsub
 have HU:=Lib.hid hup
 clear hsub hup
 go_enter Tryz.func100,Tryz.ntmps100
 go_wp2_with fail
 go_loop [5,12] (fun v i => ∃ k : Nat,k ≤ l.length ∧ i = .int .i64 k ∧ v = .int .i64 (bitsT T (l.take k))) (fun _ i => l.length - (intOf i).toNat)
 case atStart => exact ⟨0,Nat.zero_le _,rfl,by
  have : bitsT T (l.take 0) = 0:=bitsN_zero.2 (fun i _ => by simp)
  rw [this]; rfl⟩
 case round =>
  obtain ⟨k,hk,rfl,rfl⟩:=hrel
  by_cases hkn : k < l.length
  ·obtain ⟨b,off,rfl,hbs,hcell⟩:=strs_at hr hkn
   have y0:=hcell k hkn
   have HBA : Hid (∀ r (hr : r < T.length),T[r] = l[k] → bits .or .i64 (bitsT T (l.take k) : Int) ((2 : Int) ^ r) = (bitsT T (l.take (k + 1)) : Int)):=Lib.hid (fun r h1 h2 => bits_add hfew hkn h1 HU.out h2)
   have HIN:=Lib.hid (HS.out l[k] (List.getElem_mem hkn))
   clear hcell
   generalize l[k] = x at *
   simp only [encStr] at y0
   go_wp2_with fail
   refine (searchS_any lo tc TA T x _ hT HU.out (by omega)).mono ?_
   rintro e w1 ⟨r,b,rfl,hf,rfl⟩
   have hb : b = true:=by
    cases b with
    | true => rfl
    | false => exact absurd HIN.out (hf.2.2 rfl)
   subst hb
   obtain ⟨hr2,hx⟩:=hf.2.1 rfl
   have HN:=Lib.hid (HBA.out r hr2 hx)
   have hr10 : r < 10:=by omega
   have hw2:=shl_sm r hr10
   clear hf hx y0 HBA
   go_wp2_with fail
   go_round
   case rel => exact ⟨k + 1,by omega,by go_num,by rw [← HN.out]⟩
   case measure => simp [intOf]; omega
  ·have hke : k = l.length:=by omega
   subst hke
   rw [List.take_length]
   go_wp2_with fail
   go_ret
   exact ⟨rfl,rfl⟩
end Go.Proofs.YtijdbbnnkogkjaaGreatDoor
