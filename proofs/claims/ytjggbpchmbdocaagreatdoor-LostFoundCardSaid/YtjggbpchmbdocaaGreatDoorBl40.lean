/- Texts of this seat, laid together: HpS HpV HpT. -/
import Derived.Handy
import Derived.Test.YtjggbpchmbdocaaGreatDoorBl29
import Derived.Test.YtjggbpchmbdocaaGreatDoorBl23
import Derived.Test.YtjggbpchmbdocaaGreatDoorBl18
import Derived.Test.YtjggbpchmbdocaaGreatDoorBl00
import Derived.Test.YtjggbpchmbdocaaGreatDoorBl07
import Derived.Test.YtjggbpchmbdocaaGreatDoorBl08
import Derived.Test.YtjggbpchmbdocaaGreatDoorBl03
import Derived.Test.YtjggbpchmbdocaaGreatDoorBl19
import Derived.Test.YtjggbpchmbdocaaGreatDoorBl35
import Derived.Test.YtjggbpchmbdocaaGreatDoorBl28
/- Points in memory, their order, and slices.SortFunc over them. -/
set_option linter.unusedVariables false
set_option linter.unusedSimpArgs false
namespace Go.Proofs.YtjggbpchmbdocaaGreatDoor
open Go.RowKit Go.Sort Go.Shelf Go.Lib

theorem gro_of_belowP {w w' : World} (h : Below w.heap.size w w') (hd : w.drawn ≤ w'.drawn) : ∃ q os,w' = Sort.grow (w.drewN q) os:=by
 refine ⟨w'.drawn - w.drawn,w'.heap.extract w.heap.size w'.heap.size,?_⟩
 have hh : w.heap ++ w'.heap.extract w.heap.size w'.heap.size = w'.heap:=by
  have hs:=h.size
  apply Array.ext_getElem?
  intro k
  rcases Nat.lt_or_ge k w.heap.size with hk | hk
  ·rw [Array.getElem?_append_left hk,h.block k hk]
  ·rw [Array.getElem?_append_right hk,Array.getElem?_extract]
   split
   ·congr 1; omega
   ·rw [Array.getElem?_eq_none (by omega)]
 have h1:=h.os
 have h2:=h.tape
 have h3:=h.output
 have h4 : w.drawn + (w'.drawn - w.drawn) = w'.drawn:=by omega
 unfold Sort.grow World.drewN
 cases w; cases w'
 simp only at *
 subst h1 h2 h3
 rw [h4,hh]

structure TotC {α : Type} (f : α → α → Int) : Prop where
  eq : ∀ x y, f x y = 0 ↔ x = y
  flip : ∀ x y, f x y < 0 ↔ 0 < f y x
  trans : ∀ x y z, f x y < 0 → f y z < 0 → f x z < 0
theorem TotC.swo {α : Type} {f : α → α → Int} (h : TotC f) : SWO (ltOf f):=by
 refine ⟨fun x => ?_,fun x y z h1 h2 => ?_,fun x y z h1 h2 => ?_⟩
 ·unfold ltOf; simp only [decide_eq_false_iff_not]; have:=(h.eq x x).2 rfl; omega
 ·unfold ltOf at *; simp only [decide_eq_true_eq] at *; exact h.trans _ _ _ h1 h2
 ·unfold ltOf at *
  simp only [decide_eq_false_iff_not] at *
  intro h3
  have a1:=h.flip x y
  have a2:=h.flip y x
  have b1:=h.flip y z
  have b2:=h.flip z y
  rcases Int.lt_trichotomy (f y x) 0 with c | c | c
  ·rcases Int.lt_trichotomy (f z y) 0 with d | d | d
   ·have:=h.trans _ _ _ d c
    have:=(h.flip z x).1 this
    omega
   ·have:=(h.eq z y).1 d
    subst this
    have:=(h.flip _ _).1 c
    omega
   ·have:=(h.flip y z).2 d
    omega
  ·have:=(h.eq y x).1 c
   subst this
   omega
  ·have:=(h.flip x y).2 c
   omega
def sgnS (x y : List UInt8) : Int:=if x < y then -1 else if y < x then 1 else 0
theorem ltS_or (x y : List UInt8) : x < y ∨ x = y ∨ y < x:=by
 by_cases h : x < y
 ·exact .inl h
 ·by_cases e : y = x
  ·exact .inr (.inl e.symm)
  ·exact .inr (.inr (leS_lt (show y ≤ x from h) (Ne.symm e)))
theorem sgnS_tot : TotC sgnS:=by
 refine ⟨fun x y => ?_,fun x y => ?_,fun x y z h1 h2 => ?_⟩
 ·unfold sgnS
  constructor
  ·intro h
   split at h
   ·omega
   ·split at h
    ·omega
    ·rename_i a b
     rcases ltS_or x y with h | h | h
     ·exact absurd h a
     ·exact h
     ·exact absurd h b
  ·rintro rfl
   rw [if_neg (ltS_irr _),if_neg (ltS_irr _)]
 ·unfold sgnS
  by_cases a : x < y
  ·have b : ¬ y < x:=fun b => ltS_irr _ (List.lt_trans a b)
   rw [if_pos a,if_neg b,if_pos a]; decide
  ·rw [if_neg a]
   by_cases b : y < x
   ·rw [if_pos b,if_pos b]; decide
   ·rw [if_neg b,if_neg b,if_neg a]
 ·unfold sgnS at *
  have e1 : x < y:=by
   by_cases a : x < y
   ·exact a
   ·rw [if_neg a] at h1; split at h1 <;> omega
  have e2 : y < z:=by
   by_cases a : y < z
   ·exact a
   ·rw [if_neg a] at h2; split at h2 <;> omega
  rw [if_pos (List.lt_trans e1 e2)]; decide
theorem cmpB_tot : TotC Lib.compareBytes:=by
 have hf : ∀ x y : List UInt8,0 < Lib.compareBytes y x ↔ x < y:=fun x y => by
  have h1:=cmpB_lt y x
  have h2:=cmpB_eq y x
  constructor
  ·intro h
   rcases ltS_or x y with h3 | h3 | h3
   ·exact h3
   ·subst h3; have:=h2.2 rfl; omega
   ·have:=h1.2 h3; omega
  ·intro h
   rcases Int.lt_trichotomy (Lib.compareBytes y x) 0 with c | c | c
   ·exact absurd (List.lt_trans h (h1.1 c)) (ltS_irr _)
   ·rw [h2.1 c] at h; exact absurd h (ltS_irr _)
   ·exact c
 exact ⟨cmpB_eq,fun x y => by rw [cmpB_lt,hf],fun x y z h1 h2 => by rw [cmpB_lt] at *; exact List.lt_trans h1 h2⟩
def cmpLS : List (List UInt8) → List (List UInt8) → Int
 | [],[] => 0
 | [],_ :: _ => -1
 | _ :: _,[] => 1
 | x :: xs,y :: ys => if sgnS x y ≠ 0 then sgnS x y else cmpLS xs ys
theorem cmpLS_eq : ∀ x y,cmpLS x y = 0 ↔ x = y
 | [],[] => by simp [cmpLS]
 | [],_ :: _ => by simp [cmpLS]
 | _ :: _,[] => by simp [cmpLS]
 | a :: x,b :: y => by
  unfold cmpLS
  have h:=sgnS_tot.eq a b
  by_cases c : sgnS a b = 0
  ·rw [if_neg (by simp [c]),cmpLS_eq x y,h.1 c]; simp
  ·rw [if_pos c]
   constructor
   ·intro h2; exact absurd h2 c
   ·intro h2; injection h2 with h3 _; exact absurd (h.2 h3) c
theorem cmpLS_flip : ∀ x y,cmpLS x y < 0 ↔ 0 < cmpLS y x
 | [],[] => by simp [cmpLS]
 | [],_ :: _ => by simp [cmpLS]
 | _ :: _,[] => by simp [cmpLS]
 | a :: x,b :: y => by
  unfold cmpLS
  have h:=sgnS_tot.eq a b
  have h':=sgnS_tot.eq b a
  by_cases c : sgnS a b = 0
  ·have c':=h'.2 (h.1 c).symm
   rw [if_neg (by simp [c]),if_neg (by simp [c']),cmpLS_flip x y]
  ·have c' : sgnS b a ≠ 0:=fun e => c (h.2 (h'.1 e).symm)
   rw [if_pos c,if_pos c']
   exact sgnS_tot.flip a b
theorem cmpLS_trans : ∀ x y z,cmpLS x y < 0 → cmpLS y z < 0 → cmpLS x z < 0
 | [],[],_,h,_ => by simp [cmpLS] at h
 | [],_ :: _,[],_,h => by simp [cmpLS] at h
 | [],_ :: _,_ :: _,_,_ => by simp [cmpLS]
 | _ :: _,[],_,h,_ => by simp [cmpLS] at h
 | _ :: _,_ :: _,[],_,h => by simp [cmpLS] at h
 | a :: x,b :: y,c :: z,h1,h2 => by
  unfold cmpLS at h1 h2 ⊢
  by_cases e1 : sgnS a b = 0
  ·rw [if_neg (by simp [e1])] at h1
   have:=(sgnS_tot.eq a b).1 e1
   subst this
   by_cases e2 : sgnS a c = 0
   ·rw [if_neg (by simp [e2])] at h2 ⊢
    exact cmpLS_trans x y z h1 h2
   ·rw [if_pos e2] at h2 ⊢; exact h2
  ·rw [if_pos e1] at h1
   by_cases e2 : sgnS b c = 0
   ·have:=(sgnS_tot.eq b c).1 e2
    subst this
    rw [if_pos e1]; exact h1
   ·rw [if_pos e2] at h2
    have:=sgnS_tot.trans a b c h1 h2
    rw [if_pos (by omega)]; exact this
theorem cmpLS_hit : ∀ (a b : List (List UInt8)) (k : Nat) (hk : k < a.length) (hk' : k < b.length),a.take k = b.take k → sgnS a[k] b[k] ≠ 0 → cmpLS a b = sgnS a[k] b[k]
 | [],_,k,hk,_,_,_ => by simp at hk
 | _ :: _,[],k,_,hk',_,_ => by simp at hk'
 | x :: a,y :: b,0,_,_,_,h => by simp only [List.getElem_cons_zero] at h ⊢; unfold cmpLS; rw [if_pos h]
 | x :: a,y :: b,k + 1,hk,hk',h0,h => by
  simp only [List.take_succ_cons,List.cons.injEq] at h0
  simp only [List.getElem_cons_succ] at h ⊢
  unfold cmpLS
  rw [if_neg (by rw [(sgnS_tot.eq x y).2 h0.1]; simp)]
  exact cmpLS_hit a b k (by simpa using hk) (by simpa using hk') h0.2 h
theorem cmpLS_long : ∀ (a b : List (List UInt8)),b.length < a.length → a.take b.length = b → cmpLS a b = 1
 | [],_,h,_ => by simp at h
 | _ :: _,[],_,_ => rfl
 | x :: a,y :: b,h,e => by
  simp only [List.length_cons,List.take_succ_cons,List.cons.injEq] at e h
  unfold cmpLS
  rw [if_neg (by rw [(sgnS_tot.eq x y).2 e.1]; simp)]
  exact cmpLS_long a b (by omega) e.2
theorem cmpLS_short : ∀ (a b : List (List UInt8)),a.length < b.length → b.take a.length = a → cmpLS a b = -1
 | _,[],h,_ => by simp at h
 | [],_ :: _,_,_ => rfl
 | x :: a,y :: b,h,e => by
  simp only [List.length_cons,List.take_succ_cons,List.cons.injEq] at e h
  unfold cmpLS
  rw [if_neg (by rw [(sgnS_tot.eq x y).2 e.1.symm]; simp)]
  exact cmpLS_short a b (by omega) e.2
set_option maxHeartbeats 400000 in
theorem cmpS_any (x y : List UInt8) (w : World) : Calls Tryz.prog 146 #[.string ⟨x.toArray⟩,.string ⟨y.toArray⟩] w fun e w' => e = .returned (.int .i64 (sgnS x y)) ∧ w = w':=by
 have h1:=bytesLess_eq x y
 have h2:=bytesLess_eq y x
 by_cases a : x < y
 ·have e : sgnS x y = -1:=by unfold sgnS; rw [if_pos a]
  rw [decide_eq_true a] at h1
  rw [e]
  clear a e
  go_enter Tryz.func146,Tryz.ntmps146
  go_wp2_with (first | (go_at_call 186; refine (nanC_any _ _).mono ?_; rintro e w1 ⟨rfl,rfl⟩))
  go_ret
  exact ⟨rfl,rfl⟩
 ·rw [decide_eq_false a] at h1
  by_cases b : y < x
  ·have e : sgnS x y = 1:=by unfold sgnS; rw [if_neg a,if_pos b]
   have h3 : (x == y) = false:=beq_eq_false_iff_ne.2 (fun e => by subst e; exact ltS_irr _ b)
   rw [e]
   clear a b e h2
   go_enter Tryz.func146,Tryz.ntmps146
   go_wp2_with (first | (go_at_call 186; refine (nanC_any _ _).mono ?_; rintro e w1 ⟨rfl,rfl⟩))
   go_ret
   exact ⟨rfl,rfl⟩
  ·have e : sgnS x y = 0:=by unfold sgnS; rw [if_neg a,if_neg b]
   have h3 : (x == y) = true:=beq_iff_eq.2 ((sgnS_tot.eq x y).1 e)
   rw [e]
   clear a b e h2
   go_enter Tryz.func146,Tryz.ntmps146
   go_wp2_with (first | (go_at_call 186; refine (nanC_any _ _).mono ?_; rintro e w1 ⟨rfl,rfl⟩))
   go_ret
   exact ⟨rfl,rfl⟩
set_option maxHeartbeats 1000000 in
theorem compareS_any (A B : Option Addr) (c d lo lo' : Nat) (a b : List (List UInt8)) (w : World) (hr : Row w lo 1 A a.length (strs a)) (hr' : Row w lo' 1 B b.length (strs b)) (hl : a.length ≤ 1000000000) (hl' : b.length ≤ 1000000000) :
  Calls Tryz.prog 90 #[.slice A a.length c,.slice B b.length d] w fun e w' => e = .returned (.int .i64 (cmpLS a b)) ∧ w = w':=by
 go_enter Tryz.func90,Tryz.ntmps90
 go_wp2_with fail
 go_loop [11] (fun i => ∃ (k : Nat),k ≤ a.length ∧ k ≤ b.length ∧ i = .int .i64 k ∧ Hid (a.take k = b.take k)) (fun i => a.length - (intOf i).toNat)
 case atStart => exact ⟨0,Nat.zero_le _,Nat.zero_le _,rfl,Lib.hid rfl⟩
 case round =>
  obtain ⟨k,hk,hkb,rfl,htk⟩:=hrel
  by_cases hlt : k < a.length
  ·obtain ⟨p,off,rfl,hbs,hcs⟩:=strs_at hr hlt
   have c0:=hcs k hlt
   by_cases hlt' : k < b.length
   ·obtain ⟨p',off',rfl,hbs',hcs'⟩:=strs_at hr' hlt'
    have d0:=hcs' k hlt'
    have g0 : decide (b.length ≤ k) = false:=decide_eq_false (by omega)
    have HH:=Lib.hid (cmpLS_hit a b k hlt hlt' htk.out)
    have HT : Hid (a[k] = b[k] → a.take (k + 1) = b.take (k + 1)):=Lib.hid (fun h => by rw [List.take_succ_eq_append_getElem hlt,List.take_succ_eq_append_getElem hlt',htk.out,h])
    clear hcs hcs'
    generalize a[k] = x at *
    generalize b[k] = y at *
    simp only [encStr] at c0 d0
    go_wp2_with fail
    refine (cmpS_any _ _ _).mono ?_
    rintro e w1 ⟨rfl,rfl⟩
    have HE:=Lib.hid ((sgnS_tot.eq x y).1)
    generalize sgnS x y = sg at *
    by_cases he : sg = 0
    ·have HN : Hid (a.take (k + 1) = b.take (k + 1)):=Lib.hid (HT.out (HE.out he))
     have g : (sg != 0) = false:=by simpa using he
     clear he
     go_wp2_with fail
     go_round
     case rel => exact ⟨k + 1,by omega,by omega,by go_num,HN⟩
     case measure => simp [intOf]; omega
    ·have g : (sg != 0) = true:=by simpa using he
     have HN:=Lib.hid (HH.out he)
     clear he
     go_wp2_with fail
     go_ret
     exact ⟨ret_int' HN.out.symm,rfl⟩
   ·have hkb' : k = b.length:=by omega
    have HN : Hid (cmpLS a b = 1):=Lib.hid (cmpLS_long a b (by omega) (by rw [← hkb',htk.out,hkb',List.take_length]))
    have g0 : decide (b.length ≤ k) = true:=decide_eq_true (by omega)
    clear hkb'
    simp only [encStr] at c0
    go_wp2_with fail
    go_ret
    exact ⟨ret_int' HN.out.symm,rfl⟩
  ·have hka : k = a.length:=by omega
   by_cases hlt' : a.length < b.length
   ·have HN : Hid (cmpLS a b = -1):=Lib.hid (cmpLS_short a b hlt' (by rw [← hka,← htk.out,hka,List.take_length]))
    have g : decide (a.length < b.length) = true:=decide_eq_true hlt'
    clear hka
    go_wp2_with fail
    go_ret
    exact ⟨ret_int' HN.out.symm,rfl⟩
   ·have HN : Hid (cmpLS a b = 0):=Lib.hid ((cmpLS_eq a b).2 (by
     have:=htk.out
     rwa [List.take_of_length_le (by omega),List.take_of_length_le (by omega)] at this))
    have g : decide (a.length < b.length) = false:=decide_eq_false hlt'
    clear hka
    go_wp2_with fail
    go_ret
    exact ⟨ret_int' HN.out.symm,rfl⟩

set_option maxHeartbeats 400000 in
theorem orP_any (A : Option Addr) (c lo : Nat) (l : List Int) (w : World) (hr : Row w lo 1 A l.length (ints l)) (hl : l.length ≤ 1000000000) :
  Calls Tryz.prog 88 #[.slice A l.length c] w fun e w' => e = .returned (.int .i64 (firstE l)) ∧ w = w':=by
 go_enter Tryz.func88,Tryz.ntmps88
 go_wp2_with fail
 go_loop [8] (fun i => ∃ k : Nat,k ≤ l.length ∧ i = .int .i64 k ∧ Hid (∀ y ∈ l.take k,y = 0)) (fun i => l.length - (intOf i).toNat)
 case atStart => exact ⟨0,Nat.zero_le _,rfl,Lib.hid (by simp)⟩
 case round =>
  obtain ⟨k,hk,rfl,hno⟩:=hrel
  by_cases hlt : k < l.length
  ·obtain ⟨b,off,rfl,_,hbs,c0⟩:=hr.int_at hlt
   by_cases he : l[k] = 0
   ·have he' : (l[k] != 0) = false:=by simpa using he
    have HN:=Lib.hid (take_zero_snoc hno.out hlt he)
    clear he
    go_wp2_with fail
    go_round
    case rel => exact ⟨k + 1,by omega,by go_num,HN⟩
    case measure => simp [intOf]; omega
   ·have he' : (l[k] != 0) = true:=by simpa using he
    have HV:=Lib.hid (firstE_hit l k hlt hno.out he)
    clear he
    go_wp2_with fail
    go_ret
    exact ⟨ret_int' HV.out.symm,rfl⟩
  ·have HV : Hid (firstE l = 0):=Lib.hid (firstE_none l (by have:=hno.out; rwa [List.take_of_length_le (by omega)] at this))
   go_wp2_with fail
   go_ret
   exact ⟨ret_int' HV.out.symm,rfl⟩

theorem sortK_ownM {α : Type} [Inhabited α] {P : Program} {ρ : Ren} (L : SlLaysF0.n6 P ρ) (k : Nat) (hk0 : 0 < k) (aE : ∀ w,(isAgg (ρ.t 24)).run P w = .ok true w) (zE : ∀ w,(Go.sizeOf (ρ.t 24)).run P w = .ok k w) (enc : α → List Value) (hk : ∀ x,(enc x).length = k) (h1 : ∀ x,∀ v ∈ enc x,v.oneCell' = true)
  (cf : α → α → Int) (hO : SWO (ltOf cf)) (g : Nat) (cb : Array Value) (eg : ∀ args w,(callFunc g args).run P w = .ok (.enter g args) w)
  (A : Option Addr) (c base : Nat) (e : TypeId) (zs : List α) (w : World)
  (hcmp : ∀ (x y : α) (W : World),w.grownBy W (Value.slice A zs.length c).ownBlock → Calls P g (#[.agg (enc x).toArray,.agg (enc y).toArray] ++ cb) W fun e w' => e = .returned (.int .i64 (cf x y)) ∧ ∃ q os,w' = grow (W.drewN q) os)
  (ho : w.ownsRow base e k (.slice A zs.length c) zs.length (zs.flatMap enc)) (hl : zs.length ≤ 1000000000) :
  Calls P (ρ.f 6) #[.slice A zs.length c,.func (.func g) #[] cb] w fun e' w' => e' = .returned (.tuple #[]) ∧ ∃ ys : List α,ys.Perm zs ∧ ys.Pairwise (fun x y => ¬ cf y x < 0) ∧ w'.ownsRow base e k (.slice A ys.length c) ys.length (ys.flatMap enc) ∧ w.grownBy w' (Value.slice A zs.length c).ownBlock:=by
 by_cases hz : zs = []
 ·subst hz
  refine (AnyF.slices_SortFunc_none (P:=P) (ρ:=ρ) { L with } A c _ w).mono ?_
  rintro e' w' ⟨rfl,rfl⟩
  exact ⟨rfl,[],List.Perm.refl _,List.Pairwise.nil,ho,World.grownBy.refl _ _⟩
 ·have hpos : 0 < zs.length:=List.length_pos_iff.2 hz
  rcases ho.2 with ⟨h0,hn⟩ | ⟨g',cap,cur,hv,hg,hh,hcap,hm,hcs,ht⟩
  ·omega
  ·injection hv with e1 e2 e3
   subst e1 e3
   have hfl:=flat_len enc k hk zs
   rw [← hfl] at ht
   have hH : HoldsK enc k w g' 0 zs.toArray:=by
    unfold HoldsK
    rw [flatK_list enc k hk]
    exact holdsV hh ht
   refine (AnyQ.slices_SortFunc (P:=P) (ρ:=ρ) L k aE zE enc hk h1 cf hO g cb g' 0 c zs.toArray w eg ?_ hH (Array.getElem?_eq_some_iff.1 hh).1 (by simp; omega)).mono ?_
   ·intro m os dk _ x y
    refine (hcmp x y _ (by unfold sortWorldK putRowK; exact grownBy_sortedV _)).mono ?_
    rintro e' w' ⟨rfl,q,os',rfl⟩
    exact ⟨rfl,q,os',rfl⟩
   ·rintro e' w' ⟨rfl,d',n,os,hP,hS,rfl⟩
    obtain ⟨hsz,_,hperm⟩:=hP
    have e1 : d'.extract 0 zs.toArray.size = d':=by rw [← hsz]; exact Array.extract_size
    rw [e1,Array.extract_size] at hperm
    have hpl : d'.toList.length = zs.length:=by simpa using hperm.length_eq
    have hf2:=flat_len enc k hk d'.toList
    have hd : d' = d'.toList.toArray:=by simp
    refine ⟨rfl,d'.toList,hperm,?_,?_,?_⟩
    ·rw [List.pairwise_iff_getElem]
     intro i j hi hj hij
     have hi' : i < d'.size:=by simpa using hi
     have hj' : j < d'.size:=by simpa using hj
     have:=hS i j (Nat.zero_le _) hij (by rw [← hsz]; exact hj')
     rw [getElem!_pos d' j hj',getElem!_pos d' i hi'] at this
     simpa [ltOf] using this
    ·unfold sortWorldK putRowK
     rw [hd,flatK_list enc k hk]
     have hmul : d'.toList.length * k ≤ c * k:=Nat.mul_le_mul_right k (by omega)
     refine ⟨by simpa using hf2,.inr ⟨g',c,_,rfl,hg,heap_sortedV _ hh,by simpa using (by omega : d'.toList.length ≤ c),hm,by simpa [putCells] using hcs,?_⟩⟩
     have:=take_putCellsV cur (d'.toList.flatMap enc) (by rw [hf2,hcs]; exact hmul)
     rw [hf2] at this
     simpa using this
    ·unfold sortWorldK putRowK
     exact grownBy_sortedV _

structure PtE where
  room : List UInt8
  th : List (List UInt8)
  B : Option Addr
  c : Nat
instance : Inhabited PtE := ⟨⟨[], [], none, 0⟩⟩
def encP (x : PtE) : List Value:=[.string ⟨x.room.toArray⟩,.slice x.B x.th.length x.c]
theorem encP_one (x : PtE) : ∀ v ∈ encP x,v.oneCell' = true:=by intro v hv; simp [encP] at hv; rcases hv with rfl | rfl <;> rfl
def cfP (x y : PtE) : Int:=firstE [Lib.compareBytes x.room y.room,cmpLS x.th y.th]
theorem firstE_2 (a b : Int) : firstE [a,b] = if a ≠ 0 then a else b:=by
 by_cases h : a = 0
 ·subst h; by_cases h2 : b = 0 <;> simp [firstE,h2]
 ·simp [firstE,h]
def cf2 (x y : List UInt8 × List (List UInt8)) : Int:=if Lib.compareBytes x.1 y.1 ≠ 0 then Lib.compareBytes x.1 y.1 else cmpLS x.2 y.2
theorem cf2_tot : TotC cf2:=by
 refine ⟨fun x y => ?_,fun x y => ?_,fun x y z h1 h2 => ?_⟩
 ·unfold cf2
  have h:=cmpB_tot.eq x.1 y.1
  by_cases c : Lib.compareBytes x.1 y.1 = 0
  ·rw [if_neg (by simp [c]),cmpLS_eq,Prod.ext_iff]
   exact ⟨fun h2 => ⟨h.1 c,h2⟩,fun h2 => h2.2⟩
  ·rw [if_pos c]
   exact ⟨fun h2 => absurd h2 c,fun h2 => absurd (h.2 (congrArg Prod.fst h2)) c⟩
 ·unfold cf2
  have h:=cmpB_tot.eq x.1 y.1
  have h':=cmpB_tot.eq y.1 x.1
  by_cases c : Lib.compareBytes x.1 y.1 = 0
  ·have c':=h'.2 (h.1 c).symm
   rw [if_neg (by simp [c]),if_neg (by simp [c']),cmpLS_flip]
  ·have c' : Lib.compareBytes y.1 x.1 ≠ 0:=fun e => c (h.2 (h'.1 e).symm)
   rw [if_pos c,if_pos c']
   exact cmpB_tot.flip _ _
 ·unfold cf2 at *
  by_cases e1 : Lib.compareBytes x.1 y.1 = 0
  ·rw [if_neg (by simp [e1])] at h1
   have e:=(cmpB_tot.eq _ _).1 e1
   rw [e]
   by_cases e2 : Lib.compareBytes y.1 z.1 = 0
   ·rw [if_neg (by simp [e2])] at h2 ⊢
    exact cmpLS_trans _ _ _ h1 h2
   ·rw [if_pos e2] at h2 ⊢; exact h2
  ·rw [if_pos e1] at h1
   by_cases e2 : Lib.compareBytes y.1 z.1 = 0
   ·rw [← (cmpB_tot.eq _ _).1 e2,if_pos e1]; exact h1
   ·rw [if_pos e2] at h2
    have:=cmpB_tot.trans _ _ _ h1 h2
    rw [if_pos (by omega)]; exact this
theorem cfP_2 (x y : PtE) : cfP x y = cf2 (x.room,x.th) (y.room,y.th):=by unfold cfP cf2; rw [firstE_2]
theorem cfP_swo {α : Type} (f : α → PtE) : SWO (ltOf fun x y => cfP (f x) (f y)):=by
 have h:=cf2_tot.swo
 have e : ∀ x y : PtE,ltOf cf2 (x.room,x.th) (y.room,y.th) = decide (cfP x y < 0):=fun x y => by unfold ltOf; rw [cfP_2]
 obtain ⟨h1,h2,h3⟩:=h
 refine ⟨fun x => ?_,fun x y z a b => ?_,fun x y z a b => ?_⟩
 ·show decide (cfP _ _ < 0) = false
  rw [← e]; exact h1 _
 ·have a : decide (cfP (f x) (f y) < 0) = true:=a
  have b : decide (cfP (f y) (f z) < 0) = true:=b
  show decide (cfP _ _ < 0) = true
  rw [← e] at *; exact h2 _ _ _ a b
 ·have a : decide (cfP _ _ < 0) = false:=a
  have b : decide (cfP _ _ < 0) = false:=b
  show decide (cfP _ _ < 0) = false
  rw [← e] at *; exact h3 _ _ _ a b

set_option maxHeartbeats 4000000 in
set_option maxRecDepth 100000 in
theorem lostCmp_any (x y : PtE) (lo lo' : Nat) (w : World) (hx : Row w lo 1 x.B x.th.length (strs x.th)) (hy : Row w lo' 1 y.B y.th.length (strs y.th)) (hxl : x.th.length ≤ 1000) (hyl : y.th.length ≤ 1000) :
  Calls Tryz.prog 87 #[.agg #[.string ⟨x.room.toArray⟩,.slice x.B x.th.length x.c],.agg #[.string ⟨y.room.toArray⟩,.slice y.B y.th.length y.c]] w fun e w' => e = .returned (.int .i64 (cfP x y)) ∧ ∃ q os,w' = Sort.grow (w.drewN q) os:=by
 have hk1 : Blk ((w.alloc (.cells #[.string ⟨x.room.toArray⟩,.slice x.B x.th.length x.c] 35)).alloc (.cells #[.string ⟨y.room.toArray⟩,.slice y.B y.th.length y.c] 35)) w.heap.size 35 #[.string ⟨x.room.toArray⟩,.slice x.B x.th.length x.c]:=(Blk.new _ _ _).alloc _
 have hk2 : Blk ((w.alloc (.cells #[.string ⟨x.room.toArray⟩,.slice x.B x.th.length x.c] 35)).alloc (.cells #[.string ⟨y.room.toArray⟩,.slice y.B y.th.length y.c] 35)) (w.heap.size + 1) 35 #[.string ⟨y.room.toArray⟩,.slice y.B y.th.length y.c]:=Blk.at_ _ (by simp)
 have hb : Below w.heap.size w ((w.alloc (.cells #[.string ⟨x.room.toArray⟩,.slice x.B x.th.length x.c] 35)).alloc (.cells #[.string ⟨y.room.toArray⟩,.slice y.B y.th.length y.c] 35)):=(by repeat (first | exact Below.refl _ _ | refine Below.alloc ?_ (by first | omega | (simp; omega) | simp) _ | refine below_drewN' ?_ _ | refine Below.drew ?_))
 have HDW : Hid (w.drawn ≤ ((w.alloc (.cells #[.string ⟨x.room.toArray⟩,.slice x.B x.th.length x.c] 35)).alloc (.cells #[.string ⟨y.room.toArray⟩,.slice y.B y.th.length y.c] 35)).drawn):=Lib.hid (Nat.le_refl _)
 have HLX : Hid (x.th.length ≤ 1000000000 ∧ y.th.length ≤ 1000000000):=Lib.hid ⟨by omega,by omega⟩
 unfold cfP
 go_enter Tryz.func87,Tryz.ntmps87
 go_upto_region 1 with (fail)
 generalize ((w.alloc (.cells #[.string ⟨x.room.toArray⟩,.slice x.B x.th.length x.c] 35)).alloc (.cells #[.string ⟨y.room.toArray⟩,.slice y.B y.th.length y.c] 35)) = w2 at *
 have HSC : Hid (∀ W,Below w2.heap.size w2 W → (fun w' : World => w'.cell? ⟨w.heap.size,0,none⟩ = some (.string ⟨x.room.toArray⟩) ∧ w'.cell? ⟨w.heap.size,1,none⟩ = some (.slice x.B x.th.length x.c) ∧ w'.cell? ⟨w.heap.size + 1,0,none⟩ = some (.string ⟨y.room.toArray⟩) ∧ w'.cell? ⟨w.heap.size + 1,1,none⟩ = some (.slice y.B y.th.length y.c)) W):=Lib.hid (fun W hW => ⟨(hk1.below hW).cell 0,(hk1.below hW).cell 1,(hk2.below hW).cell 0,(hk2.below hW).cell 1⟩)
 have HBW : Hid (∀ W,Below w2.heap.size w2 W → Below w.heap.size w W):=Lib.hid (fun W hW => below_up hb hW)
 have HRX : Hid (∀ W,Below w2.heap.size w2 W → Row W lo 1 x.B x.th.length (strs x.th) ∧ Row W lo' 1 y.B y.th.length (strs y.th)):=Lib.hid (fun W hW => ⟨hx.below (below_up hb hW),hy.below (below_up hb hW)⟩)
 have hbz : Below w2.heap.size w2 w2.drew:=below_drewN' (Below.refl _ _) 1
 have hsc:=HSC.out _ hbz
 simp only at hsc
 clear hk1 hk2 hb hx hy hxl hyl
 refine wp_region_held_drew (S:=(fun w' => w'.cell? ⟨w.heap.size,0,none⟩ = some (.string ⟨x.room.toArray⟩) ∧ w'.cell? ⟨w.heap.size,1,none⟩ = some (.slice x.B x.th.length x.c) ∧ w'.cell? ⟨w.heap.size + 1,0,none⟩ = some (.string ⟨y.room.toArray⟩) ∧ w'.cell? ⟨w.heap.size + 1,1,none⟩ = some (.slice y.B y.th.length y.c))) (by kernel_rfl) (hsc) (fun hHeld => ?_)
 (refine QT (i:=0) (v:=?_) ?_ ?_; (rotate_left 1; (intro w hSw; (try dsimp only at hSw); go_simp); (try with_reducible rfl)); (try simp only [Act.put,Q3,Q4,Q5]))
 (refine QT (i:=1) (v:=?_) ?_ ?_; (rotate_left 1; (intro w hSw; (try dsimp only at hSw); go_simp); (try with_reducible rfl)); (try simp only [Act.put,Q3,Q4,Q5]))
 (refine QT (i:=2) (v:=?_) ?_ ?_; (rotate_left 1; (intro w hSw; (try dsimp only at hSw); go_simp); (try with_reducible rfl)); (try simp only [Act.put,Q3,Q4,Q5]))
 (refine QT (i:=3) (v:=?_) ?_ ?_; (rotate_left 1; (intro w hSw; (try dsimp only at hSw); go_simp); (try with_reducible rfl)); (try simp only [Act.put,Q3,Q4,Q5]))
 (refine QT (i:=5) (v:=?_) ?_ ?_; (rotate_left 1; (intro w hSw; (try dsimp only at hSw); go_simp); (try with_reducible rfl)); (try simp only [Act.put,Q3,Q4,Q5]))
 (refine QT (i:=6) (v:=?_) ?_ ?_; (rotate_left 1; (intro w hSw; (try dsimp only at hSw); go_simp); (try with_reducible rfl)); (try simp only [Act.put,Q3,Q4,Q5]))
 (refine QT (i:=7) (v:=?_) ?_ ?_; (rotate_left 1; (intro w hSw; (try dsimp only at hSw); go_simp); (try with_reducible rfl)); (try simp only [Act.put,Q3,Q4,Q5]))
 (refine QT (i:=8) (v:=?_) ?_ ?_; (rotate_left 1; (intro w hSw; (try dsimp only at hSw); go_simp); (try with_reducible rfl)); (try simp only [Act.put,Q3,Q4,Q5]))
 refine wpAnyH_ready (rs:=[4]) (by kernel_rfl) (by simp) ?_
 refine AllReadyH.cons rfl (fun K hK => ?_) AllReadyH.nil
 go_simp
 go_at_call 89
 refine (Tryz.strings_Compare ⟨x.room.toArray⟩ ⟨y.room.toArray⟩ _).mono ?_
 rintro e wa ⟨rfl,rfl⟩
 go_wp2_with fail
 refine hK.out _ _ (hsc) (fun hHeld => ?_)
 clear hK K
 (try simp only [Act.put,Q3,Q4,Q5])
 refine wpAnyH_ready (rs:=[9]) (by kernel_rfl) (by simp) ?_
 refine AllReadyH.cons rfl (fun K hK => ?_) AllReadyH.nil
 go_simp
 go_at_call 90
 refine (compareS_any x.B y.B x.c y.c _ _ x.th y.th _ (HRX.out _ hbz).1 (HRX.out _ hbz).2 HLX.out.1 HLX.out.2).mono ?_
 rintro e wb ⟨rfl,rfl⟩
 go_wp2_with fail
 refine hK.out _ _ (hsc) (fun hHeld => ?_)
 clear hK K
 (try simp only [Act.put,Q3,Q4,Q5])
 refine wpAnyH_ready (rs:=[10]) (by kernel_rfl) (by simp) ?_
 refine AllReadyH.cons rfl (fun K hK => ?_) AllReadyH.nil
 go_simp
 replace hbz:=hbz.alloc hbz.size (.cells #[.int .i64 (Lib.compareBytes x.room y.room),.int .i64 (cmpLS x.th y.th)] 3)
 have hro:=row_new w2.drew #[.int .i64 (Lib.compareBytes x.room y.room),.int .i64 (cmpLS x.th y.th)] 3 0 1 2 (Nat.zero_le _) rfl
 have hsc:=(HSC.out _ hbz)
 try simp only at hsc
 refine hK.out _ _ (hsc) (fun hHeld => ?_)
 clear hK K
 (try simp only [Act.put,Q3,Q4,Q5])
 refine wpAnyH_ready (rs:=[11]) (by kernel_rfl) (by simp) ?_
 refine AllReadyH.cons rfl (fun K hK => ?_) AllReadyH.nil
 go_simp
 go_at_call 88
 refine (orP_any _ 2 0 [Lib.compareBytes x.room y.room,cmpLS x.th y.th] _ hro (by simp)).mono ?_
 rintro e we ⟨rfl,rfl⟩
 go_wp2_with fail
 refine hK.out _ _ (hsc) (fun hHeld => ?_)
 clear hK K
 (try simp only [Act.put,Q3,Q4,Q5])
 (refine QT (i:=12) (v:=?_) ?_ ?_; (rotate_left 1; (intro w hSw; (try dsimp only at hSw); go_simp); (try with_reducible rfl)); (try simp only [Act.put,Q3,Q4,Q5]))
 refine wpAnyH_done (by kernel_rfl) ?_ _
 go_wp2_with fail
 go_ret
 exact ⟨rfl,gro_of_belowP (HBW.out _ hbz) (Nat.le_trans HDW.out (Nat.le_succ _))⟩

structure OPts (w : World) (base : Nat) (A : Option Addr) (d : Nat) (zs : List PtE) : Prop where
  row : w.ownsRow base 35 2 (.slice A zs.length d) zs.length (zs.flatMap encP)
  ths : ∀ x ∈ zs, w.ownsRow base 9 1 (.slice x.B x.th.length x.c) x.th.length (strs x.th)
section
variable {w w' : World} {base : Nat} {A : Option Addr} {d : Nat} {zs : List PtE}
theorem OPts.nil (w : World) (base : Nat) : OPts w base none 0 []:=⟨World.ownsRow_nil _ _ _ _,fun x h => by cases h⟩
theorem OPts.below (h : OPts w base A d zs) (hb : Below w.heap.size w w') : OPts w' base A d zs:=⟨own_keep h.row hb,fun x hx => own_keep (h.ths x hx) hb⟩
theorem OPts.alloc (h : OPts w base A d zs) (o : Obj) : OPts (w.alloc o) base A d zs:=h.below ((Below.refl _ _).alloc (Nat.le_refl _) o)
theorem OPts.drew (h : OPts w base A d zs) : OPts w.drew base A d zs:=h.below (Below.refl _ _).drew
theorem OPts.drewN (h : OPts w base A d zs) (k : Nat) : OPts (w.drewN k) base A d zs:=h.below (below_drewN' (Below.refl _ _) k)
theorem OPts.other {row : Option Nat} {x : TypeId} (h : OPts w base A d zs) (hg : w.grownBy w' row) (hk : Kind w row (some x)) (h1 : x ≠ 9) (h2 : x ≠ 35) : OPts w' base A d zs :=
 ⟨own_other h.row hg hk (fun e => h2 (Option.some.inj e)),fun y hy => own_other (h.ths y hy) hg hk (fun e => h1 (Option.some.inj e))⟩
theorem OPts.push (h : OPts w base A d zs) (hg : w.grownBy w' (Value.slice A zs.length d).ownBlock) {x : PtE} (ho : w.ownsRow base 9 1 (.slice x.B x.th.length x.c) x.th.length (strs x.th))
  {A5 : Option Addr} {d5 : Nat} (h5 : w'.ownsRow base 35 2 (.slice A5 (zs.length + 1) d5) (zs.length + 1) (zs.flatMap encP ++ encP x)) : OPts w' base A5 d5 (zs ++ [x]):=by
 have hk:=own_kind h.row
 refine ⟨?_,fun y hy => ?_⟩
 ·have e : (zs ++ [x]).flatMap encP = zs.flatMap encP ++ encP x:=by simp
  rw [e,List.length_append]; exact h5
 ·rcases List.mem_append.1 hy with hy | hy
  ·exact own_other (h.ths y hy) hg hk (by decide)
  ·have : y = x:=by simpa using hy
   rw [this]; exact own_other ho hg hk (by decide)
end

set_option maxRecDepth 100000 in
theorem sortP_any (A : Option Addr) (d base : Nat) (zs : List PtE) (w : World) (ho : OPts w base A d zs) (hl : zs.length ≤ 1000000000) (hth : ∀ x ∈ zs,x.th.length ≤ 1000) :
  Calls Tryz.prog 86 #[.slice A zs.length d,.func (.func 87) #[] #[]] w fun e w' => e = .returned (.tuple #[]) ∧ ∃ ys : List PtE,ys.Perm zs ∧ ys.Pairwise (fun x y => ¬ cfP y x < 0) ∧ OPts w' base A d ys ∧ w.grownBy w' (Value.slice A zs.length d).ownBlock:=by
 let α:={p : PtE // w.ownsRow base 9 1 (.slice p.B p.th.length p.c) p.th.length (strs p.th) ∧ p.th.length ≤ 1000}
 haveI : Inhabited α:=⟨⟨⟨[],[],none,0⟩,World.ownsRow_nil _ _ _ _,Nat.zero_le _⟩⟩
 let zz : List α:=zs.attach.map fun x => ⟨x.1,ho.ths x.1 x.2,hth x.1 x.2⟩
 have hzz : zz.map Subtype.val = zs:=by simp [zz]
 have hzl : zz.length = zs.length:=by simp [zz]
 have hfm : ∀ l : List α,l.flatMap (fun x => encP x.1) = (l.map Subtype.val).flatMap encP:=fun l => by rw [List.flatMap_map]
 have hrow : w.ownsRow base 35 2 (.slice A zz.length d) zz.length (zz.flatMap fun x => encP x.1):=by rw [hfm,hzz,hzl]; exact ho.row
 have h:=sortK_ownM (α:=α) Tryz.sortPt 2 (by omega) Tryz.isAgg35 Tryz.sizeOf35 (fun x => encP x.1) (fun _ => rfl) (fun x => encP_one x.1) (fun x y => cfP x.1 y.1) (cfP_swo _) 87 #[]
  (fun args w => by kernel_rfl) A d base 35 zz w
  (fun x y W hg => lostCmp_any x.1 y.1 base base W (Row.of_own (own_other x.2.1 hg (own_kind hrow) (by decide))) (Row.of_own (own_other y.2.1 hg (own_kind hrow) (by decide))) x.2.2 y.2.2)
  hrow (by rw [hzl]; exact hl)
 rw [hzl] at h
 refine h.mono ?_
 rintro e w' ⟨rfl,ys,hp,hs,hown,hg⟩
 refine ⟨rfl,ys.map Subtype.val,by rw [← hzz]; exact hp.map _,List.pairwise_map.2 hs,⟨?_,?_⟩,hg⟩
 ·have e : (ys.map Subtype.val).length = ys.length:=List.length_map ..
  rw [e,← hfm]; exact hown
 ·intro x hx
  obtain ⟨y,_,rfl⟩:=List.mem_map.1 hx
  exact own_other y.2.1 hg (by have:=own_kind hrow; rw [hzl] at this; exact this) (by decide)

end Go.Proofs.YtjggbpchmbdocaaGreatDoor
/- Which states are reached, plain; and what Lost and Reached tell. -/
namespace Go.Proofs.YtjggbpchmbdocaaGreatDoor
open Go.RowKit

inductive ReachX (nx : StE → List (Nat × StE)) (ef : StE → Bool) (x : StE) : StE → Prop
  | refl : ReachX nx ef x x
  | step {y z : StE} {k : Nat} : ReachX nx ef x y → ef y = false → (k, z) ∈ nx y → ReachX nx ef x z
section
variable {nx : StE → List (Nat × StE)} {ef : StE → Bool} {gd : StE → Prop} {tm : Nat → Int} {s0 x y z : StE} {sts : List StE} {stp : List (List (Nat × Nat))}
theorem ReachX.head {k : Nat} (hf : ef x = false) (hm : (k,y) ∈ nx x) (h : ReachX nx ef y z) : ReachX nx ef x z:=by
 induction h with
 | refl => exact .step .refl hf hm
 | step _ h1 h2 ih => exact .step ih h1 h2
theorem ExOk.reach_iff (h : ExOk nx ef gd s0 sts stp) (y : StE) : y ∈ sts ↔ ReachX nx ef s0 y:=by
 constructor
 ·intro hy
  obtain ⟨j,hj,rfl⟩:=List.mem_iff_getElem.1 hy
  induction j using Nat.strongRecOn with
  | ind j ih =>
   by_cases h0 : j = 0
   ·subst h0
    have:=h.first
    rw [List.getElem?_eq_getElem hj] at this
    rw [Option.some.inj this]; exact .refl
   ·obtain ⟨j',k,h1,h2⟩:=h.reach j (by omega) hj
    have hj' : j' < sts.length:=by omega
    rw [List.getD_eq_getElem?_getD,h.steps j' sts[j'] (List.getElem?_eq_getElem hj')] at h2
    by_cases he : ef sts[j'] = true
    ·rw [if_pos he] at h2; cases h2
    ·rw [if_neg he] at h2
     obtain ⟨p,hp,e⟩:=List.mem_map.1 h2
     injection e with e1 e2
     have he' : ef sts[j'] = false:=by simpa using he
     have hm:=h.closed _ (List.getElem_mem hj') he' p hp
     have hpe : p.2 = sts[j]:=by
      have:=List.getElem_idxOf (List.idxOf_lt_length_of_mem hm)
      simp only [e2] at this
      exact this.symm
     rw [← hpe]
     exact .step (ih j' h1 hj' (List.getElem_mem hj')) he' hp
 ·intro hr
  induction hr with
  | refl => exact List.mem_of_getElem? h.first
  | step _ h1 h2 ih => exact h.closed _ ih h1 _ h2
theorem way_of_reach (h : ReachX nx ef x y) (hy : ef y = true) : ∃ t d ks,WayX nx ef tm x t d ks:=by
 have key : ∀ {z},ReachX nx ef x z → (∃ t d ks,WayX nx ef tm z t d ks) → ∃ t d ks,WayX nx ef tm x t d ks:=by
  intro z hz
  induction hz with
  | refl => exact id
  | step _ h1 h2 ih => rintro ⟨t,d,ks,hw⟩; exact ih ⟨_,_,_,.go h1 h2 hw⟩
 exact key h ⟨_,_,_,.stop hy⟩
theorem reach_of_way {t d : Int} {ks : List Nat} (h : WayX nx ef tm x t d ks) : ∃ y,ReachX nx ef x y ∧ ef y = true:=by
 induction h with
 | stop h => exact ⟨_,.refl,h⟩
 | go h1 h2 _ ih => obtain ⟨y,h3,h4⟩:=ih; exact ⟨y,h3.head h1 h2,h4⟩
theorem ReachX.never (h : ReachX nx ef x y) : ReachX nx (fun _ => false) x y:=by
 induction h with
 | refl => exact .refl
 | step _ _ h2 ih => exact .step ih rfl h2
theorem way_of_never (h : ReachX nx (fun _ => false) x y) (hy : ef y = true) : ∃ t d ks,WayX nx ef tm x t d ks:=by
 have key : ∀ {z},ReachX nx (fun _ => false) x z → (∃ t d ks,WayX nx ef tm x t d ks) ∨ ReachX nx ef x z:=by
  intro z hz
  induction hz with
  | refl => exact .inr .refl
  | @step y' _ _ _ _ h2 ih =>
   rcases ih with h | h
   ·exact .inl h
   ·cases he : ef y' with
    | true => exact .inl (way_of_reach h he)
    | false => exact .inr (.step h he h2)
 rcases key h with h | h
 ·exact h
 ·exact way_of_reach h hy
end
def thX (T : List (List UInt8)) (b : Nat) : List (List UInt8):=T.filter fun s => b.testBit (T.idxOf s)
theorem thX_bits (T th : List (List UInt8)) : thX T (bitsT T th) = T.filter fun x => decide (x ∈ th):=by
 unfold thX bitsT
 refine List.filter_congr fun s hs => ?_
 have hl:=List.idxOf_lt_length_of_mem hs
 rw [bitsN_test,decide_eq_true hl,Bool.true_and,List.getD_eq_getElem?_getD,List.getElem?_eq_getElem hl,List.getElem_idxOf]
 rfl
def ptX (rs : List RoomE) (T : List (List UInt8)) (x : StE) : List UInt8 × List (List UInt8):=((rs.getD x.r default).key,thX T x.b)
theorem ptX_st {rs : List RoomE} {T : List (List UInt8)} {room : List UInt8} {th : List (List UInt8)} (hr : room ∈ rs.map RoomE.key) (hT : T.Pairwise (· < ·)) (ht : ThOk T th) : ptX rs T (stX rs T room th) = (room,th):=by
 unfold ptX stX
 simp only
 rw [thX_bits,list_bits hT ht,List.getD_eq_getElem?_getD,List.getElem?_eq_getElem (ixR_lt hr)]
 exact congrArg (·,th) (ixR_key hr)
theorem GoodX.st {rs : List RoomE} {T : List (List UInt8)} {x : StE} (h : GoodX rs T x) (hs : x.s = 0) : ∃ room th,room ∈ rs.map RoomE.key ∧ ThOk T th ∧ x = stX rs T room th:=by
 obtain ⟨⟨room,hr,e1⟩,⟨th,ht,e2⟩,_⟩:=h
 refine ⟨room,th,hr,ht,?_⟩
 cases x
 simp only at e1 e2 hs
 subst e1 e2 hs
 rfl
theorem reach_s {rs : List RoomE} {T : List (List UInt8)} {ds : List DoorE} {tr : List (List UInt8)} {wo : List UInt8} {ef : StE → Bool} {x y : StE} (h : ReachX (nxX rs T ds tr wo id) ef x y) (hx : x.s = 0) : y.s = 0:=by
 induction h with
 | refl => exact hx
 | step _ _ h2 ih =>
  obtain ⟨_,z,hz,e,_,_⟩:=nxX_mem h2
  simp only at hz e
  unfold passX at hz
  split at hz
  ·injection hz with hz
   rw [e,← hz]; exact ih
  ·cases hz
noncomputable def lostB (nx : StE → List (Nat × StE)) (ef : StE → Bool) (tm : Nat → Int) (x : StE) : Bool:=@decide (∀ t d ks,¬ WayX nx ef tm x t d ks) (Classical.propDecidable _)
theorem lostB_iff {nx : StE → List (Nat × StE)} {ef : StE → Bool} {tm : Nat → Int} {x : StE} : lostB nx ef tm x = true ↔ ∀ t d ks,¬ WayX nx ef tm x t d ks:=by
 unfold lostB; exact @decide_eq_true_iff _ (Classical.propDecidable _)
theorem LeastT.lost {nx : StE → List (Nat × StE)} {ef : StE → Bool} {tm : Nat → Int} {x : StE} {v : Int} (h : LeastT nx ef tm x v) : decide (v < 0) = lostB nx ef tm x:=by
 rcases h with ⟨rfl,h1⟩ | ⟨h0,⟨d,ks,h1⟩,_⟩
 ·rw [lostB_iff.2 h1]; decide
 ·have : lostB nx ef tm x = false:=by
   cases hb : lostB nx ef tm x with
   | false => rfl
   | true => exact absurd h1 (lostB_iff.1 hb _ _ _)
  rw [this]; exact decide_eq_false (by omega)
def LostOk (rs : List RoomE) (ds : List DoorE) (T tr : List (List UInt8)) (st gl : List UInt8) (zs : List PtE) : Prop :=
 ∃ sts : List StE,sts.Nodup ∧ (∀ x ∈ sts,GoodX rs T x) ∧ (∀ y,y ∈ sts ↔ ReachX (nxX rs T ds tr [] id) (goalX rs gl) (st0 rs T st) y) ∧
  (zs.map fun z => (z.room,z.th)).Perm ((sts.filter (lostB (nxX rs T ds tr [] id) (goalX rs gl) (tmX ds))).map (ptX rs T)) ∧ zs.Pairwise (fun x y => ¬ cfP y x < 0)
def ReachOk (rs : List RoomE) (ds : List DoorE) (T tr : List (List UInt8)) (st : List UInt8) (l : List (List UInt8)) : Prop :=
 ∃ sts : List StE,(∀ x ∈ sts,GoodX rs T x) ∧ (∀ y,y ∈ sts ↔ ReachX (nxX rs T ds tr [] id) (fun _ => false) (st0 rs T st) y) ∧ l = onceT (sts.map fun x => (rs.getD x.r default).key)
section
variable {rs : List RoomE} {ds : List DoorE} {T tr : List (List UInt8)} {st gl : List UInt8} {zs : List PtE} {l : List (List UInt8)}
theorem LostOk.mem (h : LostOk rs ds T tr st gl zs) (hT : T.Pairwise (· < ·)) {z : PtE} (hz : z ∈ zs) : z.room ∈ rs.map RoomE.key ∧ ThOk T z.th ∧ ReachX (nxX rs T ds tr [] id) (goalX rs gl) (st0 rs T st) (stX rs T z.room z.th) ∧ ∀ t d ks,¬ WayX (nxX rs T ds tr [] id) (goalX rs gl) (tmX ds) (stX rs T z.room z.th) t d ks:=by
 obtain ⟨sts,_,hg,hr,hp,_⟩:=h
 have:=hp.mem_iff.1 (List.mem_map.2 ⟨z,hz,rfl⟩)
 obtain ⟨x,hx,e⟩:=List.mem_map.1 this
 obtain ⟨hx,hl⟩:=List.mem_filter.1 hx
 have hrx:=(hr x).1 hx
 obtain ⟨room,th,h1,h2,e2⟩:=(hg x hx).st (reach_s hrx rfl)
 rw [e2,ptX_st h1 hT h2] at e
 injection e with e3 e4
 subst e3 e4
 rw [e2] at hrx hl
 exact ⟨h1,h2,hrx,lostB_iff.1 hl⟩
theorem ReachOk.mem (h : ReachOk rs ds T tr st l) {room : List UInt8} (hr : room ∈ rs.map RoomE.key) {th : List (List UInt8)} (hx : ReachX (nxX rs T ds tr [] id) (fun _ => false) (st0 rs T st) (stX rs T room th)) : room ∈ l:=by
 obtain ⟨sts,_,h1,rfl⟩:=h
 rw [(onceT_spec _).2]
 refine List.mem_map.2 ⟨_,(h1 _).2 hx,?_⟩
 show (rs.getD (ixR rs room) default).key = room
 rw [List.getD_eq_getElem?_getD,List.getElem?_eq_getElem (ixR_lt hr)]
 exact ixR_key hr
theorem ReachOk.of (h : ReachOk rs ds T tr st l) {room : List UInt8} (hm : room ∈ l) : ∃ th,room ∈ rs.map RoomE.key ∧ ThOk T th ∧ ReachX (nxX rs T ds tr [] id) (fun _ => false) (st0 rs T st) (stX rs T room th):=by
 obtain ⟨sts,hg,h1,rfl⟩:=h
 rw [(onceT_spec _).2] at hm
 obtain ⟨x,hx,e⟩:=List.mem_map.1 hm
 have hrx:=(h1 x).1 hx
 obtain ⟨room',th,h2,h3,e2⟩:=(hg x hx).st (reach_s hrx rfl)
 subst e2
 have e : (rs.getD (ixR rs room') default).key = room:=e
 rw [List.getD_eq_getElem?_getD,List.getElem?_eq_getElem (ixR_lt h2)] at e
 have e' : (rs[ixR rs room']'(ixR_lt h2)).key = room:=e
 rw [ixR_key h2] at e'
 subst e'
 exact ⟨th,h2,h3,hrx⟩
theorem FaQ.reach (h : ReachOk rs ds T tr st l) (hR : Right rs ds st gl) {K : List (List UInt8)} {t : Int} {is : Bool} (hq : ∃ r : PathR,PathOk (nxX rs T ds tr [] id) (goalX rs gl) (tmX ds) (st0 rs T st) (nS rs T) r ∧ K = r.ks.map (keyX ds) ∧ t = r.t ∧ is = r.is) : is = decide (gl ∈ l):=by
 obtain ⟨r,h1,_,_,rfl⟩:=hq
 cases hi : r.is with
 | true =>
  obtain ⟨⟨d,hw⟩,_⟩:=h1.yes hi
  obtain ⟨y,hy,hg⟩:=reach_of_way hw
  obtain ⟨sts,hgd,h2,rfl⟩:=h
  have hrx:=hy.never
  have hym:=(h2 y).2 hrx
  obtain ⟨room,th,hrm,_,e⟩:=(hgd y hym).st (reach_s hrx rfl)
  subst e
  have : room = gl:=(goalX_room hR hrm).1 hg
  subst this
  refine (decide_eq_true ?_).symm
  rw [(onceT_spec _).2]
  refine List.mem_map.2 ⟨_,hym,?_⟩
  show (rs.getD (ixR rs room) default).key = room
  rw [List.getD_eq_getElem?_getD,List.getElem?_eq_getElem (ixR_lt hrm)]
  exact ixR_key hrm
 | false =>
  refine (decide_eq_false fun hm => ?_).symm
  obtain ⟨th,h2,_,h3⟩:=h.of hm
  obtain ⟨t,d,ks,hw⟩:=way_of_never (ef:=goalX rs gl) (tm:=tmX ds) h3 ((goalX_room hR h2).2 rfl)
  exact (h1.no hi).2 _ _ _ hw
end
end Go.Proofs.YtjggbpchmbdocaaGreatDoor
/- The walks of Lost and Reached. -/
namespace Go.Proofs.YtjggbpchmbdocaaGreatDoor
open Go.RowKit

theorem ty_ptsL : SliceTy Tryz.prog 61 35 2 40:=.mk' Tryz.underlying61 (z:=.agg #[.string ⟨#[]⟩,.slice none 0 0]) (by kernel_rfl) rfl (by decide)
theorem point_g {v W : World} {lo0 M lo1 ca cd : Nat} {q : WorP} {rs : List RoomE} {ds : List DoorE} {T tr : List (List UInt8)} {wo st gl : List UInt8} {A D : Option Addr} (hW : WorW W lo0 M q T rs ds tr wo st gl) (hC : McC v W M lo1 A rs ca D ds cd st gl) (hR : Right rs ds st gl) (hTd : onceT (allT rs ds) = T) {x : StE} (hg : GoodX rs T x) :
  Calls Tryz.prog 85 #[.pointer (some ⟨q.p,0,none⟩),stV x] W (PtO W (ptX rs T x).1 (ptX rs T x).2):=by
 obtain ⟨room,hr,e1⟩:=hg.1
 obtain ⟨th,ht,e2⟩:=hg.2.1
 have hrl:=ixR_lt hr
 obtain ⟨rb,roff,e,_,hc⟩:=hC.m.room (by omega)
 have h0:=hC.cells.1
 rw [e] at h0
 have hk:=(hc (ixR rs room) hrl).1
 have hh:=pointO_any q.p M q.tc lo0 rb roff ca rs.length (ixR rs room) (x.s : Int) q.TA T th (rs[ixR rs room]'hrl).key W hW.cells.1 hW.cells.2.1 hW.things (by rw [← hTd]; exact hR.few) h0 hk hrl (by have:=hR.rl; omega)
 have e3 : ptX rs T x = ((rs[ixR rs room]'hrl).key,T.filter fun y => decide (y ∈ th)):=by
  unfold ptX
  rw [e1,e2,thX_bits,List.getD_eq_getElem?_getD,List.getElem?_eq_getElem hrl]; rfl
 rw [e3]
 unfold stV
 rw [e1,e2]
 exact hh
theorem GrW.stC {W : World} {lo g p n nc eb ec bc fb fc : Nat} {NA BA : Option Addr} {sts : List StE} {stp : List (List (Nat × Nat))} {lst : List Bool} {far : List (Int × Int)} (h : GrW W lo g p n nc eb ec bc fb fc NA BA sts stp lst far) {i : Nat} {x : StE} (hx : sts[i]? = some x) (hi : i < n) : ∃ b off,NA = some ⟨b,off,none⟩ ∧ b < W.heap.size ∧ W.cell? ⟨b,off + i * 3,none⟩ = some (.int .i64 (x.r : Int)) ∧ W.cell? ⟨b,off + i * 3 + 1,none⟩ = some (.int .i64 (x.b : Int)) ∧ W.cell? ⟨b,off + i * 3 + 2,none⟩ = some (.int .i64 (x.s : Int)):=by
 obtain ⟨b,off,e,_,hb,hc⟩:=h.N.2 (by omega)
 refine ⟨b,off,e,hb,?_,?_,?_⟩
 ·have:=hc (i * 3) _ ((st_at hx 0 (by omega)).trans rfl); exact this
 ·have:=hc (i * 3 + 1) _ ((st_at hx 1 (by omega)).trans rfl); rw [← Nat.add_assoc] at this; exact this
 ·have:=hc (i * 3 + 2) _ ((st_at hx 2 (by omega)).trans rfl); rw [← Nat.add_assoc] at this; exact this
theorem cell_al0 {w : World} {p : Addr} {v : Value} (h : w.cell? p = some v) (o : Obj) : (w.alloc o).cell? p = some v:=(((Below.refl w.heap.size w).alloc (Nat.le_refl _) o).cell (World.block_lt_of_cell? w _ h)).trans h
theorem thX_le {T : List (List UInt8)} {b : Nat} : (thX T b).length ≤ T.length:=List.length_filter_le _ _
def LoPost (w : World) (rs : List RoomE) (ds : List DoorE) (T tr : List (List UInt8)) (st gl : List UInt8) (err : Int) (e : Ending) (w' : World) : Prop :=
 ∃ (zs : List PtE) (A : Option Addr) (c : Nat),(err ≠ 0 → zs = []) ∧ (err = 0 → LostOk rs ds T tr st gl zs) ∧ e = .returned (.tuple #[.slice A zs.length c,.int .i64 err]) ∧ OPts w' w.heap.size A c zs ∧ zs.length ≤ 614400 ∧ Below w.heap.size w w'
def RePost (w : World) (rs : List RoomE) (ds : List DoorE) (T tr : List (List UInt8)) (st gl : List UInt8) (err : Int) (e : Ending) (w' : World) : Prop :=
 ∃ (l : List (List UInt8)) (A : Option Addr) (c : Nat),(err ≠ 0 → l = []) ∧ (err = 0 → ReachOk rs ds T tr st l) ∧ e = .returned (.tuple #[.slice A l.length c,.int .i64 err]) ∧ w'.ownsRow w.heap.size 9 1 (.slice A l.length c) l.length (strs l) ∧ l.length ≤ 614400 ∧ Below w.heap.size w w'

set_option maxHeartbeats 8000000 in
set_option maxRecDepth 100000 in
theorem lost_any (lo ca cd lo2 c2 : Nat) (A : Option Addr) (rs : List RoomE) (D : Option Addr) (ds : List DoorE) (st gl : List UInt8) (TR : Option Addr) (tr : List (List UInt8)) (w : World) (hA : MapW w lo A rs D ds) (hr : Row w lo2 1 TR tr.length (strs tr)) (hrl : tr.length ≤ 1000000000) :
  Calls Tryz.prog 28 #[mapV A rs ca D ds cd st gl,.slice TR tr.length c2] w (LoPost w rs ds (onceT (allT rs ds)) tr st gl (tricksE rs ds st gl tr)):=by
 obtain ⟨T,hT⟩ : ∃ T,onceT (allT rs ds) = T:=⟨_,rfl⟩
 have HT:=Lib.hid hT
 rw [hT]
 have hC : McC w (w.alloc (.cells #[.slice A rs.length ca,.slice D ds.length cd,.string ⟨st.toArray⟩,.string ⟨gl.toArray⟩] 29)) w.heap.size lo A rs ca D ds cd st gl:=⟨hA.alloc _,Blk.new _ _ _,(by repeat (first | exact Below.refl _ _ | refine Below.alloc ?_ (by first | omega | (simp; omega) | simp) _ | refine below_drewN' ?_ _ | refine Below.drew ?_))⟩
 have HRR:=Lib.hid hr
 obtain ⟨err,herr⟩ : ∃ err,err = tricksE rs ds st gl tr:=⟨_,rfl⟩
 rw [← herr]
 have HER:=Lib.hid herr
 clear hA hr hT herr
 unfold mapV
 simp only [encStr]
 go_enter Tryz.func28,Tryz.ntmps28
 go_wp2_with fail
 generalize w.alloc (.cells #[.slice A rs.length ca,.slice D ds.length cd,.string ⟨st.toArray⟩,.string ⟨gl.toArray⟩] 29) = W1 at *
 have hct:=checkTricks_any lo ca cd A rs D ds st gl lo2 c2 TR tr W1 hC.m (HRR.out.below hC.b) hrl
 unfold mapV at hct
 simp only [encStr] at hct
 rw [← HER.out] at hct
 refine hct.mono ?_
 rintro e w2 ⟨rfl,hb⟩
 have hC:=hC.below hb
 clear hct hb
 by_cases h0 : err = 0
 ·subst h0
  have HR : Hid (Right rs ds st gl):=Lib.hid (right_of (tricks_right HER.out.symm))
  have hTl : T.length ≤ 10:=by rw [← HT.out]; exact HR.out.few
  go_wp2_with fail
  refine (fastest_any w.heap.size lo ca cd lo2 c2 A rs D ds st gl T TR tr [] w2 hC.m hC.bl HR.out HT.out (HRR.out.below hC.b) hrl).mono ?_
  rintro e w3 ⟨g,rfl,⟨glo,lo0,q,n,nc,eb,ec,bc,fb,fc,NA,BA,sts,stp,far,hG,hW,hH,_⟩,hb⟩
  have hC:=hC.below hb
  have hw3:=hC.b.size
  have HG:=Lib.hid hG
  have HW:=Lib.hid hW
  have HC:=Lib.hid hC
  have hfew:=few_states hH.out.2.2.nodup (fun x hx => (hH.out.2.2.good x hx).ok hTl HR.out.rl)
  have HN:=Lib.hid hH.out.1
  have HL : Hid (∀ i x,sts[i]? = some x → decide ((fA far i).1 < 0) = lostB (nxX rs T ds tr [] id) (goalX rs gl) (tmX ds) x):=Lib.hid (fun i x hx => (hH.out.2.2.least hH.out.1 hH.out.2.1 hx).lost)
  have HFL:=Lib.hid hH.out.2.1.flen
  have HGD:=Lib.hid hH.out.2.2.good
  obtain ⟨k0,k1,k2,k3,k4⟩:=hG.g.w5
  have zg:=hG.g.lt
  rw [HN.out] at hfew
  clear hb hG hW hC
  obtain ⟨lb,hlb⟩ : ∃ lb,lb = lostB (nxX rs T ds tr [] id) (goalX rs gl) (tmX ds):=⟨_,rfl⟩
  rw [← hlb] at HL
  have HLB:=Lib.hid hlb
  clear hlb
  go_wp2_with fail
  clear k0 k1 k2 k3 k4 zg
  go_loopw [8,24] (fun v u wr => ∃ (i m : Nat) (zs : List PtE) (PA : Option Addr) (pc : Nat),i ≤ n ∧ v = .slice PA m pc ∧ u = .int .i64 i ∧ OPts wr w3.heap.size PA pc zs ∧ Below w3.heap.size w3 wr ∧ Hid (zs.length = m ∧ zs.map (fun z => (z.room,z.th)) = ((sts.take i).filter lb).map (ptX rs T))) (fun _ u _ => n - (intOf u).toNat)
  case atStart => exact ⟨0,0,[],none,0,Nat.zero_le _,rfl,rfl,OPts.nil _ _,Below.refl _ _,Lib.hid (by simp)⟩
  case round =>
   obtain ⟨i,m,zs,PA0,pc0,hi,rfl,rfl,hpt,hbl,HZ⟩:=hrel
   obtain ⟨hzm,hzz⟩:=HZ.out
   subst hzm
   replace HZ:=Lib.hid hzz
   clear hzz
   have hzl : zs.length ≤ i:=by
    have h1:=congrArg List.length HZ.out
    rw [List.length_map,List.length_map] at h1
    have h2:=List.length_filter_le lb (sts.take i)
    have h3:=List.length_take_le i sts
    omega
   by_cases hlt : i < n
   ·obtain ⟨x,HXI⟩ : ∃ x,Hid (sts[i]? = some x):=⟨sts[i]'(by rw [HN.out]; exact hlt),Lib.hid (List.getElem?_eq_getElem _)⟩
    have HGX : Hid (GoodX rs T x):=Lib.hid (HGD.out x (List.mem_of_getElem? HXI.out))
    have HTK : Hid ((sts.take (i + 1)).filter lb = (sts.take i).filter lb ++ if lb x then [x] else []):=Lib.hid (by
     rw [List.take_add_one,HXI.out,List.filter_append]
     cases hx : lb x <;> simp [hx])
    obtain ⟨k0,k1,k2,k3,k4⟩:=(HG.out.below hbl).g.w5
    have zg:=(HG.out.below hbl).g.lt
    obtain ⟨zf,f0,f1⟩:=(HG.out.below hbl).farC HFL.out hlt
    obtain ⟨nb,noff,hNA,zn,n0,n1,n2⟩:=(HG.out.below hbl).stC HXI.out hlt
    rw [hNA] at k1
    have hd:=HL.out i x HXI.out
    generalize (fA far i).1 = fi at *
    generalize (fA far i).2 = fd at *
    cases hlx : lb x with
    | false =>
     rw [hlx] at hd HTK
     clear hlx
     go_wp2_with fail
     go_roundw
     case rel => exact ⟨i + 1,zs.length,zs,PA0,pc0,by omega,rfl,by go_num,hpt.alloc _,hbl.alloc hbl.size _,Lib.hid ⟨rfl,by rw [HTK.out]; simpa using HZ.out⟩⟩
     case measure => simp [intOf]; omega
    | true =>
     rw [hlx] at hd HTK
     have hlb1 : (zs.length + 1) * 40 ≤ 140737488355328:=by omega
     have hlb2 : zs.length + 1 ≤ 9223372036854775807:=by omega
     clear hlx
     go_upto_region 10 with (fail)
     clear k0 k1 k2 k3 k4 zg zf f0 f1 n0 n1 n2 zn
     have hs : Blk (wr.alloc (.cells #[.int .i64 (x.r : Int),.int .i64 (x.b : Int),.int .i64 (x.s : Int)] 101)) wr.heap.size 101 #[.int .i64 (x.r : Int),.int .i64 (x.b : Int),.int .i64 (x.s : Int)]:=Blk.new _ _ _
     have hbl:=hbl.alloc hbl.size (.cells #[.int .i64 (x.r : Int),.int .i64 (x.b : Int),.int .i64 (x.s : Int)] 101)
     have hpt:=hpt.alloc (.cells #[.int .i64 (x.r : Int),.int .i64 (x.b : Int),.int .i64 (x.s : Int)] 101)
     generalize wr.alloc (.cells #[.int .i64 (x.r : Int),.int .i64 (x.b : Int),.int .i64 (x.s : Int)] 101) = Z at *
     generalize wr.heap.size = s at *
     have hs:=hs.drew
     have hpt:=hpt.drew
     have hwz : w3.heap.size ≤ Z.drew.heap.size:=hbl.size
     have hbl : Below w3.heap.size w3 Z.drew:=hbl.drew
     refine wp_region_held_drew (S:=(fun w' => w'.cell? ⟨g,0,none⟩ = some (.pointer (some ⟨q.p,0,none⟩)) ∧ w'.cell? ⟨s,0,none⟩ = some (.int .i64 (x.r : Int)) ∧ w'.cell? ⟨s,1,none⟩ = some (.int .i64 (x.b : Int)) ∧ w'.cell? ⟨s,2,none⟩ = some (.int .i64 (x.s : Int)))) (by kernel_rfl) (⟨(HG.out.below hbl).g.w5.1,hs.w3⟩) (fun hHeld => ?_)
     (refine QT (i:=0) (v:=?_) ?_ ?_; (rotate_left 1; (intro w hSw; (try dsimp only at hSw); go_simp); (try with_reducible rfl)); (try simp only [Act.put,Q3,Q4,Q5]))
     (refine QT (i:=1) (v:=?_) ?_ ?_; (rotate_left 1; (intro w hSw; (try dsimp only at hSw); go_simp); (try with_reducible rfl)); (try simp only [Act.put,Q3,Q4,Q5]))
     (refine QT (i:=2) (v:=?_) ?_ ?_; (rotate_left 1; (intro w hSw; (try dsimp only at hSw); go_simp); (try with_reducible rfl)); (try simp only [Act.put,Q3,Q4,Q5]))
     (refine QT (i:=3) (v:=?_) ?_ ?_; (rotate_left 1; (intro w hSw; (try dsimp only at hSw); go_simp); (try with_reducible rfl)); (try simp only [Act.put,Q3,Q4,Q5]))
     (refine QT (i:=4) (v:=?_) ?_ ?_; (rotate_left 1; (intro w hSw; (try dsimp only at hSw); go_simp); (try with_reducible rfl)); (try simp only [Act.put,Q3,Q4,Q5]))
     (refine QT (i:=5) (v:=?_) ?_ ?_; (rotate_left 1; (intro w hSw; (try dsimp only at hSw); go_simp); (try with_reducible rfl)); (try simp only [Act.put,Q3,Q4,Q5]))
     refine wpAnyH_ready (rs:=[6]) (by kernel_rfl) (by simp) ?_
     refine AllReadyH.cons rfl (fun K hK => ?_) AllReadyH.nil
     go_simp
     go_at_call 85
     refine (point_g (v:=w) (HW.out.below hbl) (HC.out.below hbl) HR.out HT.out HGX.out).mono ?_
     rintro e wp ⟨PA,pc,rfl,hpo,hb⟩
     have hbl:=hbl.trans (hb.mono hbl.size)
     have hs:=hs.below hb
     have hpt:=hpt.below hb
     have hpo:=own_down9 hpo hwz
     clear hb
     go_wp2_with fail
     refine hK.out _ _ (⟨(HG.out.below hbl).g.w5.1,hs.w3⟩) (fun hHeld => ?_)
     clear hK K
     (try simp only [Act.put,Q3,Q4,Q5])
     refine wpAnyH_ready (rs:=[7]) (by kernel_rfl) (by simp) ?_
     refine AllReadyH.cons rfl (fun K hK => ?_) AllReadyH.nil
     go_simp
     have hk : Blk (wp.alloc (.cells #[.string ⟨(ptX rs T x).1.toArray⟩,.slice PA (ptX rs T x).2.length pc] 35)) wp.heap.size 35 #[.string ⟨(ptX rs T x).1.toArray⟩,.slice PA (ptX rs T x).2.length pc]:=Blk.new _ _ _
     have hbl:=hbl.alloc hbl.size (.cells #[.string ⟨(ptX rs T x).1.toArray⟩,.slice PA (ptX rs T x).2.length pc] 35)
     have hs:=hs.alloc (.cells #[.string ⟨(ptX rs T x).1.toArray⟩,.slice PA (ptX rs T x).2.length pc] 35)
     have hpt:=hpt.alloc (.cells #[.string ⟨(ptX rs T x).1.toArray⟩,.slice PA (ptX rs T x).2.length pc] 35)
     have hpo:=hpo.alloc (.cells #[.string ⟨(ptX rs T x).1.toArray⟩,.slice PA (ptX rs T x).2.length pc] 35)
     refine hK.out _ _ (⟨(HG.out.below hbl).g.w5.1,hs.w3⟩) (fun hHeld => ?_)
     clear hK K
     (try simp only [Act.put,Q3,Q4,Q5])
     refine wpAnyH_ready (rs:=[8]) (by kernel_rfl) (by simp) ?_
     refine AllReadyH.cons rfl (fun K hK => ?_) AllReadyH.nil
     refine step_app (lo:=0) (base:=w3.heap.size) (n:=zs.length) (xs:=zs.flatMap encP) _ rfl _ _ ty_ptsL rfl hpt.row rfl (Row.lit (n:=1) (size:=2) hk (Nat.zero_le _) rfl) rfl rfl hlb1 hlb2 hbl.size ?_
     intro A5 c5 w5 hd5 g5 _
     have hpt5:=hpt.push (x:=⟨(ptX rs T x).1,(ptX rs T x).2,PA,pc⟩) g5 hpo hd5
     have hbl:=hbl.grown g5 hbl.size (own_base hpt.row)
     have hs:=hs.other g5 (own_kind hpt.row) (by decide)
     refine hK.out _ _ (⟨(HG.out.below hbl).g.w5.1,hs.w3⟩) (fun hHeld => ?_)
     clear hK K
     (try simp only [Act.put,Q3,Q4,Q5])
     (refine QT (i:=9) (v:=?_) ?_ ?_; (rotate_left 1; (intro w hSw; (try dsimp only at hSw); go_simp); (try with_reducible rfl)); (try simp only [Act.put,Q3,Q4,Q5]))
     refine wpAnyH_done (by kernel_rfl) ?_ _
     clear hs
     go_wp2_with fail
     go_roundw
     case rel => exact ⟨_,_,_,_,⟨i + 1,by omega,zs.length + 1,_,A5,c5,rfl,rfl,hpt5,Lib.hid ⟨by simp,by rw [HTK.out,List.map_append,List.map_append,HZ.out]; rfl⟩⟩,rfl,rfl,rfl,by simp⟩
     case measure => simp [intOf]; omega
   ·have hie : i = n:=by omega
    subst hie
    have HXO:=Lib.hid hH.out.2.2
    have HZA : Hid (zs.map (fun z => (z.room,z.th)) = (sts.filter lb).map (ptX rs T)):=Lib.hid (by have:=HZ.out; rwa [← HN.out,List.take_length] at this)
    have hth : ∀ z ∈ zs,z.th.length ≤ 1000:=fun z hz => by
     have hm : (z.room,z.th) ∈ (sts.filter lb).map (ptX rs T):=by rw [← HZA.out]; exact List.mem_map.2 ⟨z,hz,rfl⟩
     obtain ⟨x,_,e⟩:=List.mem_map.1 hm
     have e2 : z.th = thX T x.b:=(congrArg Prod.snd e).symm
     rw [e2]
     exact Nat.le_trans thX_le (by omega)
    have HTH:=Lib.hid hth
    clear hth
    go_wp2_with fail
    refine (sortP_any PA0 pc0 w3.heap.size zs _ hpt (by omega) HTH.out).mono ?_
    rintro e w6 ⟨rfl,ys,hp,hs,ho,hg⟩
    have hbl:=hbl.grown hg hbl.size (own_base hpt.row)
    have hyl:=hp.length_eq
    have HP:=Lib.hid hp
    have HS:=Lib.hid hs
    clear hp hs
    go_wp2_with fail
    go_ret2
    refine ⟨ys,PA0,pc0,fun h => absurd rfl h,fun _ => ⟨sts,HXO.out.nodup,HXO.out.good,HXO.out.reach_iff,?_,HS.out.imp (fun h => by omega)⟩,by rw [hyl]; rfl,⟨own_down9 ho.row hw3,fun x hx => own_down9 (ho.ths x hx) hw3⟩,by omega,below_up HC.out.b hbl⟩
    rw [← HLB.out,← HZA.out]
    exact HP.out.map _
 ·have d0 : (err != 0) = true:=bne_iff_ne.2 h0
  go_wp2_with fail
  go_ret2
  exact ⟨[],none,0,fun _ => rfl,fun h => absurd h h0,rfl,OPts.nil _ _,Nat.zero_le _,hC.b⟩

set_option maxHeartbeats 400000 in
theorem neverC_any (x : StE) (w : World) : Calls Tryz.prog 82 #[stV x] w fun e w' => e = .returned (.bool false) ∧ Below w.heap.size w w':=by
 unfold stV
 go_enter Tryz.func82,Tryz.ntmps82
 go_wp2_with fail
 go_ret
 exact ⟨rfl,(by repeat (first | exact Below.refl _ _ | refine Below.alloc ?_ (by first | omega | (simp; omega) | simp) _ | refine below_drewN' ?_ _ | refine Below.drew ?_))⟩
theorem never_ok (w : World) (t : Nat) (TC : Array Value) : EndsOk w t TC 82 #[] #[] (fun _ => false) :=
 ⟨fun args W => by kernel_rfl,fun W x _ _ _ => neverC_any x W⟩

set_option maxHeartbeats 8000000 in
set_option maxRecDepth 100000 in
theorem reached_any (lo ca cd lo2 c2 : Nat) (A : Option Addr) (rs : List RoomE) (D : Option Addr) (ds : List DoorE) (st gl : List UInt8) (TR : Option Addr) (tr : List (List UInt8)) (w : World) (hA : MapW w lo A rs D ds) (hr : Row w lo2 1 TR tr.length (strs tr)) (hrl : tr.length ≤ 1000000000) :
  Calls Tryz.prog 27 #[mapV A rs ca D ds cd st gl,.slice TR tr.length c2] w (RePost w rs ds (onceT (allT rs ds)) tr st gl (tricksE rs ds st gl tr)):=by
 obtain ⟨T,hT⟩ : ∃ T,onceT (allT rs ds) = T:=⟨_,rfl⟩
 have HT:=Lib.hid hT
 rw [hT]
 have hC : McC w (w.alloc (.cells #[.slice A rs.length ca,.slice D ds.length cd,.string ⟨st.toArray⟩,.string ⟨gl.toArray⟩] 29)) w.heap.size lo A rs ca D ds cd st gl:=⟨hA.alloc _,Blk.new _ _ _,(by repeat (first | exact Below.refl _ _ | refine Below.alloc ?_ (by first | omega | (simp; omega) | simp) _ | refine below_drewN' ?_ _ | refine Below.drew ?_))⟩
 have HRR:=Lib.hid hr
 obtain ⟨err,herr⟩ : ∃ err,err = tricksE rs ds st gl tr:=⟨_,rfl⟩
 rw [← herr]
 have HER:=Lib.hid herr
 clear hA hr hT herr
 unfold mapV
 simp only [encStr]
 go_enter Tryz.func27,Tryz.ntmps27
 go_wp2_with fail
 generalize w.alloc (.cells #[.slice A rs.length ca,.slice D ds.length cd,.string ⟨st.toArray⟩,.string ⟨gl.toArray⟩] 29) = W1 at *
 have hct:=checkTricks_any lo ca cd A rs D ds st gl lo2 c2 TR tr W1 hC.m (HRR.out.below hC.b) hrl
 unfold mapV at hct
 simp only [encStr] at hct
 rw [← HER.out] at hct
 refine hct.mono ?_
 rintro e w2 ⟨rfl,hb⟩
 have hC:=hC.below hb
 clear hct hb
 by_cases h0 : err = 0
 ·subst h0
  have HR : Hid (Right rs ds st gl):=Lib.hid (right_of (tricks_right HER.out.symm))
  have hTl : T.length ≤ 10:=by rw [← HT.out]; exact HR.out.few
  go_wp2_with fail
  refine (newWorld_any w.heap.size lo ca cd lo2 c2 A rs D ds st gl T TR tr [] w2 hC.m hC.bl HR.out HT.out (HRR.out.below hC.b) hrl).mono ?_
  rintro e w3 ⟨q,rfl,hW,hq,hb⟩
  have hC:=hC.below hb
  have HW:=Lib.hid hW
  clear hb hW
  go_wp2_with fail
  refine (begin_w HW.out HR.out).mono ?_
  rintro e w4 ⟨rfl,hb⟩
  have hC:=hC.below hb
  have HW2:=Lib.hid (HW.out.below hb)
  clear hb
  go_wp2_with fail
  refine (exploreG_any (x0:=st0 rs T st) (w:=w) HW2.out HR.out HT.out (st0_good HR.out HT.out) hC.b (fun _ h => h) (fun t => see_ok _ t _ _ _ _) (fun t => never_ok _ t _)).mono ?_
  rintro e w5 ⟨g,rfl,⟨glo,lo0,q2,n,nc,eb,ec,bc,fb,fc,NA,BA,sts,stp,far,hG,hW,hH,_⟩,hb⟩
  have hC:=hC.below hb
  have hw5:=hC.b.size
  have HG:=Lib.hid hG
  have HC:=Lib.hid hC
  have hfew:=few_states hH.out.2.2.nodup (fun x hx => (hH.out.2.2.good x hx).ok hTl HR.out.rl)
  have HN:=Lib.hid hH.out.1
  have HGD:=Lib.hid hH.out.2.2.good
  obtain ⟨k0,k1,k2,k3,k4⟩:=hG.g.w5
  have zg:=hG.g.lt
  rw [HN.out] at hfew
  obtain ⟨L,hL⟩ : ∃ L,L = sts.map fun x => (rs.getD x.r default).key:=⟨_,rfl⟩
  have HLE:=Lib.hid hL
  have HLL : Hid (L.length = n):=Lib.hid (by rw [hL,List.length_map]; exact HN.out)
  clear hb hG hW hC hL
  go_wp2_with fail
  clear k0 k1 k2 k3 k4 zg
  go_loopw [8,28] (fun v u wr => ∃ (i : Nat) (PA : Option Addr) (pc : Nat),i ≤ n ∧ v = .slice PA i pc ∧ u = .int .i64 i ∧ wr.ownsRow w5.heap.size 9 1 (.slice PA i pc) i (strs (L.take i)) ∧ Below w5.heap.size w5 wr) (fun _ u _ => n - (intOf u).toNat)
  case atStart => exact ⟨0,none,0,Nat.zero_le _,rfl,rfl,World.ownsRow_nil _ _ _ _,Below.refl _ _⟩
  case round =>
   obtain ⟨i,PA0,pc0,hi,rfl,rfl,hown,hbl⟩:=hrel
   by_cases hlt : i < n
   ·obtain ⟨x,HXI⟩ : ∃ x,Hid (sts[i]? = some x):=⟨sts[i]'(by rw [HN.out]; exact hlt),Lib.hid (List.getElem?_eq_getElem _)⟩
    have HGX : Hid (GoodX rs T x):=Lib.hid (HGD.out x (List.mem_of_getElem? HXI.out))
    obtain ⟨nb,noff,rfl,zn,n0,n1,n2⟩:=(HG.out.below hbl).stC HXI.out hlt
    have hxr:=HGX.out.lt.1
    obtain ⟨rb,roff,rfl,zr,hrc⟩:=(HC.out.below hbl).m.room (by omega)
    have r0:=(hrc x.r hxr).1
    have m0:=(HC.out.below hbl).cells.1
    have zm:=(HC.out.below hbl).bl.lt
    have HTK : Hid (L.take (i + 1) = L.take i ++ [rs[x.r].key]):=Lib.hid (by
     have h1 : L[i]? = some (rs[x.r].key):=by
      rw [HLE.out,List.getElem?_map,HXI.out]
      simp only [Option.map_some]
      rw [List.getD_eq_getElem?_getD,List.getElem?_eq_getElem hxr]; rfl
     rw [List.take_add_one,h1]; rfl)
    simp only [encStr] at r0
    generalize rs[x.r].key = kk at *
    have hx0 : (0 : Int) ≤ (x.r : Int):=by omega
    have hx1 : (x.r : Int) < (rs.length : Int):=by omega
    have hlb1 : (i + 1) * 16 ≤ 140737488355328:=by omega
    have hlb2 : i + 1 ≤ 9223372036854775807:=by omega
    clear hrc
    go_upto_region 9 with (fail)
    clear n0 n1 n2 zn
    have hs : Blk (wr.alloc (.cells #[.int .i64 (x.r : Int),.int .i64 (x.b : Int),.int .i64 (x.s : Int)] 101)) wr.heap.size 101 #[.int .i64 (x.r : Int),.int .i64 (x.b : Int),.int .i64 (x.s : Int)]:=Blk.new _ _ _
    have hbl:=hbl.alloc hbl.size (.cells #[.int .i64 (x.r : Int),.int .i64 (x.b : Int),.int .i64 (x.s : Int)] 101)
    have hown:=hown.alloc (.cells #[.int .i64 (x.r : Int),.int .i64 (x.b : Int),.int .i64 (x.s : Int)] 101)
    have r0:=cell_al0 r0 (.cells #[.int .i64 (x.r : Int),.int .i64 (x.b : Int),.int .i64 (x.s : Int)] 101)
    have m0:=cell_al0 m0 (.cells #[.int .i64 (x.r : Int),.int .i64 (x.b : Int),.int .i64 (x.s : Int)] 101)
    have zr : rb < (wr.alloc (.cells #[.int .i64 (x.r : Int),.int .i64 (x.b : Int),.int .i64 (x.s : Int)] 101)).heap.size:=by simp; omega
    have zm : w.heap.size < (wr.alloc (.cells #[.int .i64 (x.r : Int),.int .i64 (x.b : Int),.int .i64 (x.s : Int)] 101)).heap.size:=by simp; omega
    generalize wr.alloc (.cells #[.int .i64 (x.r : Int),.int .i64 (x.b : Int),.int .i64 (x.s : Int)] 101) = Z at *
    generalize wr.heap.size = s at *
    obtain ⟨s0,s1,s2⟩:=hs.w3
    have zs:=hs.lt
    have hsz:=hbl.size
    go_wp2_with (at_builtin; go_must (refine wpList_app (lo:=w5.heap.size) (base:=w5.heap.size) (n:=i) (xs:=strs (L.take i)) _ _ rfl _ _ ty_strsL rfl (by repeat (first | exact hown | refine World.ownsRow.alloc ?_ _ | refine own_drewN ?_ _ | refine World.ownsRow.drew ?_)) rfl (by first | exact row_new' _ (by first | rfl | simp) (by first | omega | (simp; omega)) rfl | exact row_newN _ _ (by first | rfl | simp) (by first | omega | (simp; omega)) rfl | exact row_newD _ (by first | rfl | simp) (by first | omega | (simp; omega)) rfl) rfl rfl (by first | omega | decide) (by first | omega | decide) (by first | omega | (simp; omega)) ?_))
    intro A5 c5 w6 hown6 hg6 _
    have hbl6 : Below w5.heap.size w5 w6:=Below.grown (by repeat (first | exact hbl | refine Below.alloc ?_ (by first | omega | (simp; omega)) _)) hg6 (by first | omega | (simp; omega)) (own_base (by repeat (first | exact hown | refine World.ownsRow.alloc ?_ _)))
    have HO6 : Hid (w6.ownsRow w5.heap.size 9 1 (.slice A5 (i + 1) c5) (i + 1) (strs (L.take (i + 1)))):=Lib.hid (by rw [HTK.out]; simpa [strs,encStr] using hown6)
    clear hown6 hg6 s0 s1 s2 r0 m0
    go_wp2_with fail
    go_roundw
    case rel => exact ⟨i + 1,A5,c5,by omega,rfl,by go_num,HO6.out,hbl6⟩
    case measure => simp [intOf]; omega
   ·have hie : i = n:=by omega
    subst hie
    have HXO:=Lib.hid hH.out.2.2
    have HTL : Hid (L.take i = L):=Lib.hid (by rw [← HLL.out,List.take_length])
    rw [HTL.out] at hown
    have HS:=Lib.hid (sortT_len L)
    have HO:=Lib.hid (onceT_eq L)
    have hown : wr.ownsRow w5.heap.size 9 1 (.slice PA0 L.length pc0) L.length (strs L):=by rw [HLL.out]; exact hown
    have hll : L.length ≤ 1000000000:=by rw [HLL.out]; omega
    have hst:=sortT_any PA0 pc0 w5.heap.size L wr hown hll
    rw [HLL.out] at hst
    go_wp2_with fail
    refine hst.mono ?_
    rintro e w6 ⟨rfl,ho2,hg2⟩
    have hb2 : Below w5.heap.size w5 w6:=hbl.grown hg2 hbl.size (own_base (by rw [← HLL.out]; exact hown))
    have hb2z:=hb2.size
    clear hst
    go_wp2_with fail
    have ho2' : w6.ownsRow w5.heap.size 9 1 (.slice PA0 (sortT L).length pc0) (sortT L).length (strs (sortT L)):=by rw [HS.out,HLL.out]; exact ho2
    have hcm:=compactT_any PA0 pc0 w5.heap.size (sortT L) _ ho2' (by rw [HS.out]; exact hll)
    rw [HS.out,← HO.out,HLL.out] at hcm
    refine hcm.mono ?_
    rintro e w7 ⟨rfl,ho3,hg3⟩
    have hb3 : Below w5.heap.size w5 w7:=hb2.grown hg3 hb2z (own_base ho2)
    have HO3:=Lib.hid ho3
    have hol:=onceT_le L
    rw [HLL.out] at hol
    clear ho2 ho2' ho3 hg2 hg3 hb2 hcm hown
    go_wp2_with fail
    go_ret2
    exact ⟨onceT L,PA0,pc0,fun h => absurd rfl h,fun _ => ⟨sts,HXO.out.good,HXO.out.reach_iff,by rw [HLE.out]⟩,rfl,own_down9 HO3.out hw5,by omega,below_up HC.out.b hb3⟩
 ·have d0 : (err != 0) = true:=bne_iff_ne.2 h0
  go_wp2_with fail
  go_ret2
  exact ⟨[],none,0,fun _ => rfl,fun h => absurd h h0,rfl,World.ownsRow_nil _ _ _ _,Nat.zero_le _,hC.b⟩

end Go.Proofs.YtjggbpchmbdocaaGreatDoor
