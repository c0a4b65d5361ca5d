/- Texts of this seat, laid together: HpS. -/
import Derived.Handy
import Derived.Test.YtpialnjfdbfkdaaGreatDoorBs22
import Derived.Test.YtpialnjfdbfkdaaGreatDoorBs15
import Derived.Test.YtpialnjfdbfkdaaGreatDoorBs11
import Derived.Test.YtpialnjfdbfkdaaGreatDoorBs00
import Derived.Test.YtpialnjfdbfkdaaGreatDoorBs23
import Derived.Test.YtpialnjfdbfkdaaGreatDoorBs29
import Derived.Test.YtpialnjfdbfkdaaGreatDoorBs05
import Derived.Test.YtpialnjfdbfkdaaGreatDoorBs12
/- Points in memory, their order, and slices.SortFunc over them. -/
namespace Go.Proofs.YtpialnjfdbfkdaaGreatDoor
set_option linter.unusedVariables false
set_option linter.unusedSimpArgs false
open Go.RowKit Go.Sort Go.Shelf Go.Lib

theorem gro_of_belowP {w w' : World} (h : Below w.heap.size w w') (hd : w.drawn ≤ w'.drawn) : ∃ q os,w' = Sort.grow (w.drewN q) os:=by
 refine ⟨w'.drawn - w.drawn,w'.heap.extract w.heap.size w'.heap.size,?_⟩
 have hh : w.heap ++ w'.heap.extract w.heap.size w'.heap.size = w'.heap:=by
  have hs:=h.size
  apply Array.ext_getElem?
  intro k
  rcases Nat.lt_or_ge k w.heap.size with hk | hk
  ·rw [Array.getElem?_append_left hk,h.block k hk]
  ·rw [Array.getElem?_append_right hk,Array.getElem?_extract]
   split
   ·congr 1; omega
   ·rw [Array.getElem?_eq_none (by omega)]
 have h1:=h.os
 have h2:=h.tape
 have h3:=h.output
 have h4 : w.drawn + (w'.drawn - w.drawn) = w'.drawn:=by omega
 unfold Sort.grow World.drewN
 cases w; cases w'
 simp only at *
 subst h1 h2 h3
 rw [h4,hh]

structure TotC {α : Type} (f : α → α → Int) : Prop where
  eq : ∀ x y, f x y = 0 ↔ x = y
  flip : ∀ x y, f x y < 0 ↔ 0 < f y x
  trans : ∀ x y z, f x y < 0 → f y z < 0 → f x z < 0
theorem TotC.swo {α : Type} {f : α → α → Int} (h : TotC f) : SWO (ltOf f):=by
 refine ⟨fun x => ?_,fun x y z h1 h2 => ?_,fun x y z h1 h2 => ?_⟩
 ·unfold ltOf; simp only [decide_eq_false_iff_not]; have:=(h.eq x x).2 rfl; omega
 ·unfold ltOf at *; simp only [decide_eq_true_eq] at *; exact h.trans _ _ _ h1 h2
 ·unfold ltOf at *
  simp only [decide_eq_false_iff_not] at *
  intro h3
  have a1:=h.flip x y
  have a2:=h.flip y x
  have b1:=h.flip y z
  have b2:=h.flip z y
  rcases Int.lt_trichotomy (f y x) 0 with c | c | c
  ·rcases Int.lt_trichotomy (f z y) 0 with d | d | d
   ·have:=h.trans _ _ _ d c
    have:=(h.flip z x).1 this
    omega
   ·have:=(h.eq z y).1 d
    subst this
    have:=(h.flip _ _).1 c
    omega
   ·have:=(h.flip y z).2 d
    omega
  ·have:=(h.eq y x).1 c
   subst this
   omega
  ·have:=(h.flip x y).2 c
   omega
def sgnS (x y : List UInt8) : Int:=if x < y then -1 else if y < x then 1 else 0
theorem ltS_or (x y : List UInt8) : x < y ∨ x = y ∨ y < x:=by
 by_cases h : x < y
 ·exact .inl h
 ·by_cases e : y = x
  ·exact .inr (.inl e.symm)
  ·exact .inr (.inr (leS_lt (show y ≤ x from h) (Ne.symm e)))
theorem sgnS_tot : TotC sgnS:=by
 refine ⟨fun x y => ?_,fun x y => ?_,fun x y z h1 h2 => ?_⟩
 ·unfold sgnS
  constructor
  ·intro h
   split at h
   ·omega
   ·split at h
    ·omega
    ·rename_i a b
     rcases ltS_or x y with h | h | h
     ·exact absurd h a
     ·exact h
     ·exact absurd h b
  ·rintro rfl
   rw [if_neg (ltS_irr _),if_neg (ltS_irr _)]
 ·unfold sgnS
  by_cases a : x < y
  ·have b : ¬ y < x:=fun b => ltS_irr _ (List.lt_trans a b)
   rw [if_pos a,if_neg b,if_pos a]; decide
  ·rw [if_neg a]
   by_cases b : y < x
   ·rw [if_pos b,if_pos b]; decide
   ·rw [if_neg b,if_neg b,if_neg a]
 ·unfold sgnS at *
  have e1 : x < y:=by
   by_cases a : x < y
   ·exact a
   ·rw [if_neg a] at h1; split at h1 <;> omega
  have e2 : y < z:=by
   by_cases a : y < z
   ·exact a
   ·rw [if_neg a] at h2; split at h2 <;> omega
  rw [if_pos (List.lt_trans e1 e2)]; decide
theorem cmpB_tot : TotC Lib.compareBytes:=by
 have hf : ∀ x y : List UInt8,0 < Lib.compareBytes y x ↔ x < y:=fun x y => by
  have h1:=cmpB_lt y x
  have h2:=cmpB_eq y x
  constructor
  ·intro h
   rcases ltS_or x y with h3 | h3 | h3
   ·exact h3
   ·subst h3; have:=h2.2 rfl; omega
   ·have:=h1.2 h3; omega
  ·intro h
   rcases Int.lt_trichotomy (Lib.compareBytes y x) 0 with c | c | c
   ·exact absurd (List.lt_trans h (h1.1 c)) (ltS_irr _)
   ·rw [h2.1 c] at h; exact absurd h (ltS_irr _)
   ·exact c
 exact ⟨cmpB_eq,fun x y => by rw [cmpB_lt,hf],fun x y z h1 h2 => by rw [cmpB_lt] at *; exact List.lt_trans h1 h2⟩
def cmpLS : List (List UInt8) → List (List UInt8) → Int
 | [],[] => 0
 | [],_ :: _ => -1
 | _ :: _,[] => 1
 | x :: xs,y :: ys => if sgnS x y ≠ 0 then sgnS x y else cmpLS xs ys
theorem cmpLS_eq : ∀ x y,cmpLS x y = 0 ↔ x = y
 | [],[] => by simp [cmpLS]
 | [],_ :: _ => by simp [cmpLS]
 | _ :: _,[] => by simp [cmpLS]
 | a :: x,b :: y => by
  unfold cmpLS
  have h:=sgnS_tot.eq a b
  by_cases c : sgnS a b = 0
  ·rw [if_neg (by simp [c]),cmpLS_eq x y,h.1 c]; simp
  ·rw [if_pos c]
   constructor
   ·intro h2; exact absurd h2 c
   ·intro h2; injection h2 with h3 _; exact absurd (h.2 h3) c
theorem cmpLS_flip : ∀ x y,cmpLS x y < 0 ↔ 0 < cmpLS y x
 | [],[] => by simp [cmpLS]
 | [],_ :: _ => by simp [cmpLS]
 | _ :: _,[] => by simp [cmpLS]
 | a :: x,b :: y => by
  unfold cmpLS
  have h:=sgnS_tot.eq a b
  have h':=sgnS_tot.eq b a
  by_cases c : sgnS a b = 0
  ·have c':=h'.2 (h.1 c).symm
   rw [if_neg (by simp [c]),if_neg (by simp [c']),cmpLS_flip x y]
  ·have c' : sgnS b a ≠ 0:=fun e => c (h.2 (h'.1 e).symm)
   rw [if_pos c,if_pos c']
   exact sgnS_tot.flip a b
theorem cmpLS_trans : ∀ x y z,cmpLS x y < 0 → cmpLS y z < 0 → cmpLS x z < 0
 | [],[],_,h,_ => by simp [cmpLS] at h
 | [],_ :: _,[],_,h => by simp [cmpLS] at h
 | [],_ :: _,_ :: _,_,_ => by simp [cmpLS]
 | _ :: _,[],_,h,_ => by simp [cmpLS] at h
 | _ :: _,_ :: _,[],_,h => by simp [cmpLS] at h
 | a :: x,b :: y,c :: z,h1,h2 => by
  unfold cmpLS at h1 h2 ⊢
  by_cases e1 : sgnS a b = 0
  ·rw [if_neg (by simp [e1])] at h1
   have:=(sgnS_tot.eq a b).1 e1
   subst this
   by_cases e2 : sgnS a c = 0
   ·rw [if_neg (by simp [e2])] at h2 ⊢
    exact cmpLS_trans x y z h1 h2
   ·rw [if_pos e2] at h2 ⊢; exact h2
  ·rw [if_pos e1] at h1
   by_cases e2 : sgnS b c = 0
   ·have:=(sgnS_tot.eq b c).1 e2
    subst this
    rw [if_pos e1]; exact h1
   ·rw [if_pos e2] at h2
    have:=sgnS_tot.trans a b c h1 h2
    rw [if_pos (by omega)]; exact this
theorem cmpLS_hit : ∀ (a b : List (List UInt8)) (k : Nat) (hk : k < a.length) (hk' : k < b.length),a.take k = b.take k → sgnS a[k] b[k] ≠ 0 → cmpLS a b = sgnS a[k] b[k]
 | [],_,k,hk,_,_,_ => by simp at hk
 | _ :: _,[],k,_,hk',_,_ => by simp at hk'
 | x :: a,y :: b,0,_,_,_,h => by simp only [List.getElem_cons_zero] at h ⊢; unfold cmpLS; rw [if_pos h]
 | x :: a,y :: b,k + 1,hk,hk',h0,h => by
  simp only [List.take_succ_cons,List.cons.injEq] at h0
  simp only [List.getElem_cons_succ] at h ⊢
  unfold cmpLS
  rw [if_neg (by rw [(sgnS_tot.eq x y).2 h0.1]; simp)]
  exact cmpLS_hit a b k (by simpa using hk) (by simpa using hk') h0.2 h
theorem cmpLS_long : ∀ (a b : List (List UInt8)),b.length < a.length → a.take b.length = b → cmpLS a b = 1
 | [],_,h,_ => by simp at h
 | _ :: _,[],_,_ => rfl
 | x :: a,y :: b,h,e => by
  simp only [List.length_cons,List.take_succ_cons,List.cons.injEq] at e h
  unfold cmpLS
  rw [if_neg (by rw [(sgnS_tot.eq x y).2 e.1]; simp)]
  exact cmpLS_long a b (by omega) e.2
theorem cmpLS_short : ∀ (a b : List (List UInt8)),a.length < b.length → b.take a.length = a → cmpLS a b = -1
 | _,[],h,_ => by simp at h
 | [],_ :: _,_,_ => rfl
 | x :: a,y :: b,h,e => by
  simp only [List.length_cons,List.take_succ_cons,List.cons.injEq] at e h
  unfold cmpLS
  rw [if_neg (by rw [(sgnS_tot.eq x y).2 e.1.symm]; simp)]
  exact cmpLS_short a b (by omega) e.2
set_option maxHeartbeats 400000 in
theorem cmpS_any (x y : List UInt8) (w : World) : Calls Tryz.prog 90 #[.string ⟨x.toArray⟩,.string ⟨y.toArray⟩] w fun e w' => e = .returned (.int .i64 (sgnS x y)) ∧ w = w':=by
 have h1:=bytesLess_eq x y
 have h2:=bytesLess_eq y x
 by_cases a : x < y
 ·have e : sgnS x y = -1:=by unfold sgnS; rw [if_pos a]
  rw [decide_eq_true a] at h1
  rw [e]
  clear a e
  go_enter Tryz.func90,Tryz.ntmps90
  go_wp2_with (first | (go_at_call 131; refine (nanC_any _ _).mono ?_; rintro e w1 ⟨rfl,rfl⟩))
  go_ret
  exact ⟨rfl,rfl⟩
 ·rw [decide_eq_false a] at h1
  by_cases b : y < x
  ·have e : sgnS x y = 1:=by unfold sgnS; rw [if_neg a,if_pos b]
   have h3 : (x == y) = false:=beq_eq_false_iff_ne.2 (fun e => by subst e; exact ltS_irr _ b)
   rw [e]
   clear a b e h2
   go_enter Tryz.func90,Tryz.ntmps90
   go_wp2_with (first | (go_at_call 131; refine (nanC_any _ _).mono ?_; rintro e w1 ⟨rfl,rfl⟩))
   go_ret
   exact ⟨rfl,rfl⟩
  ·have e : sgnS x y = 0:=by unfold sgnS; rw [if_neg a,if_neg b]
   have h3 : (x == y) = true:=beq_iff_eq.2 ((sgnS_tot.eq x y).1 e)
   rw [e]
   clear a b e h2
   go_enter Tryz.func90,Tryz.ntmps90
   go_wp2_with (first | (go_at_call 131; refine (nanC_any _ _).mono ?_; rintro e w1 ⟨rfl,rfl⟩))
   go_ret
   exact ⟨rfl,rfl⟩
set_option maxHeartbeats 1000000 in
theorem compareS_any (A B : Option Addr) (c d lo lo' : Nat) (a b : List (List UInt8)) (w : World) (hr : Row w lo 1 A a.length (strs a)) (hr' : Row w lo' 1 B b.length (strs b)) (hl : a.length ≤ 1000000000) (hl' : b.length ≤ 1000000000) :
  Calls Tryz.prog 43 #[.slice A a.length c,.slice B b.length d] w fun e w' => e = .returned (.int .i64 (cmpLS a b)) ∧ w = w':=by
 go_enter Tryz.func43,Tryz.ntmps43
 go_wp2_with fail
 go_loop [11] (fun i => ∃ (k : Nat),k ≤ a.length ∧ k ≤ b.length ∧ i = .int .i64 k ∧ Hid (a.take k = b.take k)) (fun i => a.length - (intOf i).toNat)
 case atStart => exact ⟨0,Nat.zero_le _,Nat.zero_le _,rfl,Lib.hid rfl⟩
 case round =>
  obtain ⟨k,hk,hkb,rfl,htk⟩:=hrel
  by_cases hlt : k < a.length
  ·obtain ⟨p,off,rfl,hbs,hcs⟩:=strs_at hr hlt
   have c0:=hcs k hlt
   by_cases hlt' : k < b.length
   ·obtain ⟨p',off',rfl,hbs',hcs'⟩:=strs_at hr' hlt'
    have d0:=hcs' k hlt'
    have g0 : decide (b.length ≤ k) = false:=decide_eq_false (by omega)
    have HH:=Lib.hid (cmpLS_hit a b k hlt hlt' htk.out)
    have HT : Hid (a[k] = b[k] → a.take (k + 1) = b.take (k + 1)):=Lib.hid (fun h => by rw [List.take_succ_eq_append_getElem hlt,List.take_succ_eq_append_getElem hlt',htk.out,h])
    clear hcs hcs'
    generalize a[k] = x at *
    generalize b[k] = y at *
    simp only [encStr] at c0 d0
    go_wp2_with fail
    refine (cmpS_any _ _ _).mono ?_
    rintro e w1 ⟨rfl,rfl⟩
    have HE:=Lib.hid ((sgnS_tot.eq x y).1)
    generalize sgnS x y = sg at *
    by_cases he : sg = 0
    ·have HN : Hid (a.take (k + 1) = b.take (k + 1)):=Lib.hid (HT.out (HE.out he))
     have g : (sg != 0) = false:=by simpa using he
     clear he
     go_wp2_with fail
     go_round
     case rel => exact ⟨k + 1,by omega,by omega,by go_num,HN⟩
     case measure => simp [intOf]; omega
    ·have g : (sg != 0) = true:=by simpa using he
     have HN:=Lib.hid (HH.out he)
     clear he
     go_wp2_with fail
     go_ret
     exact ⟨ret_int' HN.out.symm,rfl⟩
   ·have hkb' : k = b.length:=by omega
    have HN : Hid (cmpLS a b = 1):=Lib.hid (cmpLS_long a b (by omega) (by rw [← hkb',htk.out,hkb',List.take_length]))
    have g0 : decide (b.length ≤ k) = true:=decide_eq_true (by omega)
    clear hkb'
    simp only [encStr] at c0
    go_wp2_with fail
    go_ret
    exact ⟨ret_int' HN.out.symm,rfl⟩
  ·have hka : k = a.length:=by omega
   by_cases hlt' : a.length < b.length
   ·have HN : Hid (cmpLS a b = -1):=Lib.hid (cmpLS_short a b hlt' (by rw [← hka,← htk.out,hka,List.take_length]))
    have g : decide (a.length < b.length) = true:=decide_eq_true hlt'
    clear hka
    go_wp2_with fail
    go_ret
    exact ⟨ret_int' HN.out.symm,rfl⟩
   ·have HN : Hid (cmpLS a b = 0):=Lib.hid ((cmpLS_eq a b).2 (by
     have:=htk.out
     rwa [List.take_of_length_le (by omega),List.take_of_length_le (by omega)] at this))
    have g : decide (a.length < b.length) = false:=decide_eq_false hlt'
    clear hka
    go_wp2_with fail
    go_ret
    exact ⟨ret_int' HN.out.symm,rfl⟩

set_option maxHeartbeats 400000 in
theorem orP_any (A : Option Addr) (c lo : Nat) (l : List Int) (w : World) (hr : Row w lo 1 A l.length (ints l)) (hl : l.length ≤ 1000000000) :
  Calls Tryz.prog 41 #[.slice A l.length c] w fun e w' => e = .returned (.int .i64 (firstE l)) ∧ w = w':=by
 go_enter Tryz.func41,Tryz.ntmps41
 go_wp2_with fail
 go_loop [8] (fun i => ∃ k : Nat,k ≤ l.length ∧ i = .int .i64 k ∧ Hid (∀ y ∈ l.take k,y = 0)) (fun i => l.length - (intOf i).toNat)
 case atStart => exact ⟨0,Nat.zero_le _,rfl,Lib.hid (by simp)⟩
 case round =>
  obtain ⟨k,hk,rfl,hno⟩:=hrel
  by_cases hlt : k < l.length
  ·obtain ⟨b,off,rfl,_,hbs,c0⟩:=hr.int_at hlt
   by_cases he : l[k] = 0
   ·have he' : (l[k] != 0) = false:=by simpa using he
    have HN:=Lib.hid (take_zero_snoc hno.out hlt he)
    clear he
    go_wp2_with fail
    go_round
    case rel => exact ⟨k + 1,by omega,by go_num,HN⟩
    case measure => simp [intOf]; omega
   ·have he' : (l[k] != 0) = true:=by simpa using he
    have HV:=Lib.hid (firstE_hit l k hlt hno.out he)
    clear he
    go_wp2_with fail
    go_ret
    exact ⟨ret_int' HV.out.symm,rfl⟩
  ·have HV : Hid (firstE l = 0):=Lib.hid (firstE_none l (by have:=hno.out; rwa [List.take_of_length_le (by omega)] at this))
   go_wp2_with fail
   go_ret
   exact ⟨ret_int' HV.out.symm,rfl⟩

theorem sortK_ownM {α : Type} [Inhabited α] {P : Program} {ρ : Ren} (L : SlLaysF0.n6 P ρ) (k : Nat) (hk0 : 0 < k) (aE : ∀ w,(isAgg (ρ.t 24)).run P w = .ok true w) (zE : ∀ w,(Go.sizeOf (ρ.t 24)).run P w = .ok k w) (enc : α → List Value) (hk : ∀ x,(enc x).length = k) (h1 : ∀ x,∀ v ∈ enc x,v.oneCell' = true)
  (cf : α → α → Int) (hO : SWO (ltOf cf)) (g : Nat) (cb : Array Value) (eg : ∀ args w,(callFunc g args).run P w = .ok (.enter g args) w)
  (A : Option Addr) (c base : Nat) (e : TypeId) (zs : List α) (w : World)
  (hcmp : ∀ (x y : α) (W : World),w.grownBy W (Value.slice A zs.length c).ownBlock → Calls P g (#[.agg (enc x).toArray,.agg (enc y).toArray] ++ cb) W fun e w' => e = .returned (.int .i64 (cf x y)) ∧ ∃ q os,w' = grow (W.drewN q) os)
  (ho : w.ownsRow base e k (.slice A zs.length c) zs.length (zs.flatMap enc)) (hl : zs.length ≤ 1000000000) :
  Calls P (ρ.f 6) #[.slice A zs.length c,.func (.func g) #[] cb] w fun e' w' => e' = .returned (.tuple #[]) ∧ ∃ ys : List α,ys.Perm zs ∧ ys.Pairwise (fun x y => ¬ cf y x < 0) ∧ w'.ownsRow base e k (.slice A ys.length c) ys.length (ys.flatMap enc) ∧ w.grownBy w' (Value.slice A zs.length c).ownBlock:=by
 by_cases hz : zs = []
 ·subst hz
  refine (AnyF.slices_SortFunc_none (P:=P) (ρ:=ρ) { L with } A c _ w).mono ?_
  rintro e' w' ⟨rfl,rfl⟩
  exact ⟨rfl,[],List.Perm.refl _,List.Pairwise.nil,ho,World.grownBy.refl _ _⟩
 ·have hpos : 0 < zs.length:=List.length_pos_iff.2 hz
  rcases ho.2 with ⟨h0,hn⟩ | ⟨g',cap,cur,hv,hg,hh,hcap,hm,hcs,ht⟩
  ·omega
  ·injection hv with e1 e2 e3
   subst e1 e3
   have hfl:=flat_len enc k hk zs
   rw [← hfl] at ht
   have hH : HoldsK enc k w g' 0 zs.toArray:=by
    unfold HoldsK
    rw [flatK_list enc k hk]
    exact holdsV hh ht
   refine (AnyQ.slices_SortFunc (P:=P) (ρ:=ρ) L k aE zE enc hk h1 cf hO g cb g' 0 c zs.toArray w eg ?_ hH (Array.getElem?_eq_some_iff.1 hh).1 (by simp; omega)).mono ?_
   ·intro m os dk _ x y
    refine (hcmp x y _ (by unfold sortWorldK putRowK; exact grownBy_sortedV _)).mono ?_
    rintro e' w' ⟨rfl,q,os',rfl⟩
    exact ⟨rfl,q,os',rfl⟩
   ·rintro e' w' ⟨rfl,d',n,os,hP,hS,rfl⟩
    obtain ⟨hsz,_,hperm⟩:=hP
    have e1 : d'.extract 0 zs.toArray.size = d':=by rw [← hsz]; exact Array.extract_size
    rw [e1,Array.extract_size] at hperm
    have hpl : d'.toList.length = zs.length:=by simpa using hperm.length_eq
    have hf2:=flat_len enc k hk d'.toList
    have hd : d' = d'.toList.toArray:=by simp
    refine ⟨rfl,d'.toList,hperm,?_,?_,?_⟩
    ·rw [List.pairwise_iff_getElem]
     intro i j hi hj hij
     have hi' : i < d'.size:=by simpa using hi
     have hj' : j < d'.size:=by simpa using hj
     have:=hS i j (Nat.zero_le _) hij (by rw [← hsz]; exact hj')
     rw [getElem!_pos d' j hj',getElem!_pos d' i hi'] at this
     simpa [ltOf] using this
    ·unfold sortWorldK putRowK
     rw [hd,flatK_list enc k hk]
     have hmul : d'.toList.length * k ≤ c * k:=Nat.mul_le_mul_right k (by omega)
     refine ⟨by simpa using hf2,.inr ⟨g',c,_,rfl,hg,heap_sortedV _ hh,by simpa using (by omega : d'.toList.length ≤ c),hm,by simpa [putCells] using hcs,?_⟩⟩
     have:=take_putCellsV cur (d'.toList.flatMap enc) (by rw [hf2,hcs]; exact hmul)
     rw [hf2] at this
     simpa using this
    ·unfold sortWorldK putRowK
     exact grownBy_sortedV _

structure PtE where
  room : List UInt8
  th : List (List UInt8)
  B : Option Addr
  c : Nat
instance : Inhabited PtE := ⟨⟨[], [], none, 0⟩⟩
def encP (x : PtE) : List Value:=[.string ⟨x.room.toArray⟩,.slice x.B x.th.length x.c]
theorem encP_one (x : PtE) : ∀ v ∈ encP x,v.oneCell' = true:=by intro v hv; simp [encP] at hv; rcases hv with rfl | rfl <;> rfl
def cfP (x y : PtE) : Int:=firstE [Lib.compareBytes x.room y.room,cmpLS x.th y.th]
theorem firstE_2 (a b : Int) : firstE [a,b] = if a ≠ 0 then a else b:=by
 by_cases h : a = 0
 ·subst h; by_cases h2 : b = 0 <;> simp [firstE,h2]
 ·simp [firstE,h]
def cf2 (x y : List UInt8 × List (List UInt8)) : Int:=if Lib.compareBytes x.1 y.1 ≠ 0 then Lib.compareBytes x.1 y.1 else cmpLS x.2 y.2
theorem cf2_tot : TotC cf2:=by
 refine ⟨fun x y => ?_,fun x y => ?_,fun x y z h1 h2 => ?_⟩
 ·unfold cf2
  have h:=cmpB_tot.eq x.1 y.1
  by_cases c : Lib.compareBytes x.1 y.1 = 0
  ·rw [if_neg (by simp [c]),cmpLS_eq,Prod.ext_iff]
   exact ⟨fun h2 => ⟨h.1 c,h2⟩,fun h2 => h2.2⟩
  ·rw [if_pos c]
   exact ⟨fun h2 => absurd h2 c,fun h2 => absurd (h.2 (congrArg Prod.fst h2)) c⟩
 ·unfold cf2
  have h:=cmpB_tot.eq x.1 y.1
  have h':=cmpB_tot.eq y.1 x.1
  by_cases c : Lib.compareBytes x.1 y.1 = 0
  ·have c':=h'.2 (h.1 c).symm
   rw [if_neg (by simp [c]),if_neg (by simp [c']),cmpLS_flip]
  ·have c' : Lib.compareBytes y.1 x.1 ≠ 0:=fun e => c (h.2 (h'.1 e).symm)
   rw [if_pos c,if_pos c']
   exact cmpB_tot.flip _ _
 ·unfold cf2 at *
  by_cases e1 : Lib.compareBytes x.1 y.1 = 0
  ·rw [if_neg (by simp [e1])] at h1
   have e:=(cmpB_tot.eq _ _).1 e1
   rw [e]
   by_cases e2 : Lib.compareBytes y.1 z.1 = 0
   ·rw [if_neg (by simp [e2])] at h2 ⊢
    exact cmpLS_trans _ _ _ h1 h2
   ·rw [if_pos e2] at h2 ⊢; exact h2
  ·rw [if_pos e1] at h1
   by_cases e2 : Lib.compareBytes y.1 z.1 = 0
   ·rw [← (cmpB_tot.eq _ _).1 e2,if_pos e1]; exact h1
   ·rw [if_pos e2] at h2
    have:=cmpB_tot.trans _ _ _ h1 h2
    rw [if_pos (by omega)]; exact this
theorem cfP_2 (x y : PtE) : cfP x y = cf2 (x.room,x.th) (y.room,y.th):=by unfold cfP cf2; rw [firstE_2]
theorem cfP_swo {α : Type} (f : α → PtE) : SWO (ltOf fun x y => cfP (f x) (f y)):=by
 have h:=cf2_tot.swo
 have e : ∀ x y : PtE,ltOf cf2 (x.room,x.th) (y.room,y.th) = decide (cfP x y < 0):=fun x y => by unfold ltOf; rw [cfP_2]
 obtain ⟨h1,h2,h3⟩:=h
 refine ⟨fun x => ?_,fun x y z a b => ?_,fun x y z a b => ?_⟩
 ·show decide (cfP _ _ < 0) = false
  rw [← e]; exact h1 _
 ·have a : decide (cfP (f x) (f y) < 0) = true:=a
  have b : decide (cfP (f y) (f z) < 0) = true:=b
  show decide (cfP _ _ < 0) = true
  rw [← e] at *; exact h2 _ _ _ a b
 ·have a : decide (cfP _ _ < 0) = false:=a
  have b : decide (cfP _ _ < 0) = false:=b
  show decide (cfP _ _ < 0) = false
  rw [← e] at *; exact h3 _ _ _ a b

set_option maxHeartbeats 4000000 in
set_option maxRecDepth 100000 in
theorem lostCmp_any (x y : PtE) (lo lo' : Nat) (w : World) (hx : Row w lo 1 x.B x.th.length (strs x.th)) (hy : Row w lo' 1 y.B y.th.length (strs y.th)) (hxl : x.th.length ≤ 1000) (hyl : y.th.length ≤ 1000) :
  Calls Tryz.prog 40 #[.agg #[.string ⟨x.room.toArray⟩,.slice x.B x.th.length x.c],.agg #[.string ⟨y.room.toArray⟩,.slice y.B y.th.length y.c]] w fun e w' => e = .returned (.int .i64 (cfP x y)) ∧ ∃ q os,w' = Sort.grow (w.drewN q) os:=by
 have hk1 : Blk ((w.alloc (.cells #[.string ⟨x.room.toArray⟩,.slice x.B x.th.length x.c] 34)).alloc (.cells #[.string ⟨y.room.toArray⟩,.slice y.B y.th.length y.c] 34)) w.heap.size 34 #[.string ⟨x.room.toArray⟩,.slice x.B x.th.length x.c]:=(Blk.new _ _ _).alloc _
 have hk2 : Blk ((w.alloc (.cells #[.string ⟨x.room.toArray⟩,.slice x.B x.th.length x.c] 34)).alloc (.cells #[.string ⟨y.room.toArray⟩,.slice y.B y.th.length y.c] 34)) (w.heap.size + 1) 34 #[.string ⟨y.room.toArray⟩,.slice y.B y.th.length y.c]:=Blk.at_ _ (by simp)
 have hb : Below w.heap.size w ((w.alloc (.cells #[.string ⟨x.room.toArray⟩,.slice x.B x.th.length x.c] 34)).alloc (.cells #[.string ⟨y.room.toArray⟩,.slice y.B y.th.length y.c] 34)):=(by repeat (first | exact Below.refl _ _ | refine Below.alloc ?_ (by first | omega | (simp; omega) | simp) _ | refine below_drewN' ?_ _ | refine Below.drew ?_))
 have HDW : Hid (w.drawn ≤ ((w.alloc (.cells #[.string ⟨x.room.toArray⟩,.slice x.B x.th.length x.c] 34)).alloc (.cells #[.string ⟨y.room.toArray⟩,.slice y.B y.th.length y.c] 34)).drawn):=Lib.hid (Nat.le_refl _)
 have HLX : Hid (x.th.length ≤ 1000000000 ∧ y.th.length ≤ 1000000000):=Lib.hid ⟨by omega,by omega⟩
 unfold cfP
 go_enter Tryz.func40,Tryz.ntmps40
 go_upto_region 1 with (fail)
 generalize ((w.alloc (.cells #[.string ⟨x.room.toArray⟩,.slice x.B x.th.length x.c] 34)).alloc (.cells #[.string ⟨y.room.toArray⟩,.slice y.B y.th.length y.c] 34)) = w2 at *
 have HSC : Hid (∀ W,Below w2.heap.size w2 W → (fun w' : World => w'.cell? ⟨w.heap.size,0,none⟩ = some (.string ⟨x.room.toArray⟩) ∧ w'.cell? ⟨w.heap.size,1,none⟩ = some (.slice x.B x.th.length x.c) ∧ w'.cell? ⟨w.heap.size + 1,0,none⟩ = some (.string ⟨y.room.toArray⟩) ∧ w'.cell? ⟨w.heap.size + 1,1,none⟩ = some (.slice y.B y.th.length y.c)) W):=Lib.hid (fun W hW => ⟨(hk1.below hW).cell 0,(hk1.below hW).cell 1,(hk2.below hW).cell 0,(hk2.below hW).cell 1⟩)
 have HBW : Hid (∀ W,Below w2.heap.size w2 W → Below w.heap.size w W):=Lib.hid (fun W hW => below_up hb hW)
 have HRX : Hid (∀ W,Below w2.heap.size w2 W → Row W lo 1 x.B x.th.length (strs x.th) ∧ Row W lo' 1 y.B y.th.length (strs y.th)):=Lib.hid (fun W hW => ⟨hx.below (below_up hb hW),hy.below (below_up hb hW)⟩)
 have hbz : Below w2.heap.size w2 w2.drew:=below_drewN' (Below.refl _ _) 1
 have hsc:=HSC.out _ hbz
 simp only at hsc
 clear hk1 hk2 hb hx hy hxl hyl
 refine wp_region_held_drew (S:=(fun w' => w'.cell? ⟨w.heap.size,0,none⟩ = some (.string ⟨x.room.toArray⟩) ∧ w'.cell? ⟨w.heap.size,1,none⟩ = some (.slice x.B x.th.length x.c) ∧ w'.cell? ⟨w.heap.size + 1,0,none⟩ = some (.string ⟨y.room.toArray⟩) ∧ w'.cell? ⟨w.heap.size + 1,1,none⟩ = some (.slice y.B y.th.length y.c))) (by kernel_rfl) (hsc) (fun hHeld => ?_)
 (refine QT (i:=0) (v:=?_) (by (simp only [Q0,Q2]; rfl)) (by kernel_rfl) (by exact fun _ _ _ h => h) (by rfl) ?_ (by assumption) ?_; (rotate_left 1; (intro w hSw; (try dsimp only at hSw); go_simp); (try with_reducible rfl)); (try simp only [Act.put,Q3,Q4,Q5]))
 (refine QT (i:=1) (v:=?_) (by (simp only [Q0,Q1,Q2]; rfl)) (by kernel_rfl) (by exact fun _ _ _ h => h) (by rfl) ?_ (by assumption) ?_; (rotate_left 1; (intro w hSw; (try dsimp only at hSw); go_simp); (try with_reducible rfl)); (try simp only [Act.put,Q3,Q4,Q5]))
 (refine QT (i:=2) (v:=?_) (by (simp only [Q0,Q1,Q2]; rfl)) (by kernel_rfl) (by exact fun _ _ _ h => h) (by rfl) ?_ (by assumption) ?_; (rotate_left 1; (intro w hSw; (try dsimp only at hSw); go_simp); (try with_reducible rfl)); (try simp only [Act.put,Q3,Q4,Q5]))
 (refine QT (i:=3) (v:=?_) (by (simp only [Q0,Q1,Q2]; rfl)) (by kernel_rfl) (by exact fun _ _ _ h => h) (by rfl) ?_ (by assumption) ?_; (rotate_left 1; (intro w hSw; (try dsimp only at hSw); go_simp); (try with_reducible rfl)); (try simp only [Act.put,Q3,Q4,Q5]))
 (refine QT (i:=5) (v:=?_) (by (simp only [Q0,Q1,Q2]; rfl)) (by kernel_rfl) (by exact fun _ _ _ h => h) (by rfl) ?_ (by assumption) ?_; (rotate_left 1; (intro w hSw; (try dsimp only at hSw); go_simp); (try with_reducible rfl)); (try simp only [Act.put,Q3,Q4,Q5]))
 (refine QT (i:=6) (v:=?_) (by (simp only [Q0,Q1,Q2]; rfl)) (by kernel_rfl) (by exact fun _ _ _ h => h) (by rfl) ?_ (by assumption) ?_; (rotate_left 1; (intro w hSw; (try dsimp only at hSw); go_simp); (try with_reducible rfl)); (try simp only [Act.put,Q3,Q4,Q5]))
 (refine QT (i:=7) (v:=?_) (by (simp only [Q0,Q1,Q2]; rfl)) (by kernel_rfl) (by exact fun _ _ _ h => h) (by rfl) ?_ (by assumption) ?_; (rotate_left 1; (intro w hSw; (try dsimp only at hSw); go_simp); (try with_reducible rfl)); (try simp only [Act.put,Q3,Q4,Q5]))
 (refine QT (i:=8) (v:=?_) (by (simp only [Q0,Q1,Q2]; rfl)) (by kernel_rfl) (by exact fun _ _ _ h => h) (by rfl) ?_ (by assumption) ?_; (rotate_left 1; (intro w hSw; (try dsimp only at hSw); go_simp); (try with_reducible rfl)); (try simp only [Act.put,Q3,Q4,Q5]))
 refine wpAnyH_ready (rs:=[4]) (by kernel_rfl) (by simp) ?_
 refine AllReadyH.cons rfl (fun K hK => ?_) AllReadyH.nil
 go_simp
 go_at_call 42
 refine (Tryz.strings_Compare ⟨x.room.toArray⟩ ⟨y.room.toArray⟩ _).mono ?_
 rintro e wa ⟨rfl,rfl⟩
 go_wp2_with fail
 refine hK.out _ _ (hsc) (fun hHeld => ?_)
 clear hK K
 (try simp only [Act.put,Q3,Q4,Q5])
 refine wpAnyH_ready (rs:=[9]) (by kernel_rfl) (by simp) ?_
 refine AllReadyH.cons rfl (fun K hK => ?_) AllReadyH.nil
 go_simp
 go_at_call 43
 refine (compareS_any x.B y.B x.c y.c _ _ x.th y.th _ (HRX.out _ hbz).1 (HRX.out _ hbz).2 HLX.out.1 HLX.out.2).mono ?_
 rintro e wb ⟨rfl,rfl⟩
 go_wp2_with fail
 refine hK.out _ _ (hsc) (fun hHeld => ?_)
 clear hK K
 (try simp only [Act.put,Q3,Q4,Q5])
 refine wpAnyH_ready (rs:=[10]) (by kernel_rfl) (by simp) ?_
 refine AllReadyH.cons rfl (fun K hK => ?_) AllReadyH.nil
 go_simp
 replace hbz:=hbz.alloc hbz.size (.cells #[.int .i64 (Lib.compareBytes x.room y.room),.int .i64 (cmpLS x.th y.th)] 3)
 have hro:=row_new w2.drew #[.int .i64 (Lib.compareBytes x.room y.room),.int .i64 (cmpLS x.th y.th)] 3 0 1 2 (Nat.zero_le _) rfl
 have hsc:=(HSC.out _ hbz)
 try simp only at hsc
 refine hK.out _ _ (hsc) (fun hHeld => ?_)
 clear hK K
 (try simp only [Act.put,Q3,Q4,Q5])
 refine wpAnyH_ready (rs:=[11]) (by kernel_rfl) (by simp) ?_
 refine AllReadyH.cons rfl (fun K hK => ?_) AllReadyH.nil
 go_simp
 go_at_call 41
 refine (orP_any _ 2 0 [Lib.compareBytes x.room y.room,cmpLS x.th y.th] _ hro (by simp)).mono ?_
 rintro e we ⟨rfl,rfl⟩
 go_wp2_with fail
 refine hK.out _ _ (hsc) (fun hHeld => ?_)
 clear hK K
 (try simp only [Act.put,Q3,Q4,Q5])
 (refine QT (i:=12) (v:=?_) (by (simp only [Q0,Q1,Q2]; rfl)) (by kernel_rfl) (by exact fun _ _ _ h => h) (by rfl) ?_ (by assumption) ?_; (rotate_left 1; (intro w hSw; (try dsimp only at hSw); go_simp); (try with_reducible rfl)); (try simp only [Act.put,Q3,Q4,Q5]))
 refine wpAnyH_done (by kernel_rfl) ?_ _
 go_wp2_with fail
 go_ret
 exact ⟨rfl,gro_of_belowP (HBW.out _ hbz) (Nat.le_trans HDW.out (Nat.le_succ _))⟩

structure OPts (w : World) (base : Nat) (A : Option Addr) (d : Nat) (zs : List PtE) : Prop where
  row : w.ownsRow base 34 2 (.slice A zs.length d) zs.length (zs.flatMap encP)
  ths : ∀ x ∈ zs, w.ownsRow base 9 1 (.slice x.B x.th.length x.c) x.th.length (strs x.th)
section
variable {w w' : World} {base : Nat} {A : Option Addr} {d : Nat} {zs : List PtE}
theorem OPts.nil (w : World) (base : Nat) : OPts w base none 0 []:=⟨World.ownsRow_nil _ _ _ _,fun x h => by cases h⟩
theorem OPts.below (h : OPts w base A d zs) (hb : Below w.heap.size w w') : OPts w' base A d zs:=⟨own_keep h.row hb,fun x hx => own_keep (h.ths x hx) hb⟩
theorem OPts.alloc (h : OPts w base A d zs) (o : Obj) : OPts (w.alloc o) base A d zs:=h.below ((Below.refl _ _).alloc (Nat.le_refl _) o)
theorem OPts.drew (h : OPts w base A d zs) : OPts w.drew base A d zs:=h.below (Below.refl _ _).drew
theorem OPts.drewN (h : OPts w base A d zs) (k : Nat) : OPts (w.drewN k) base A d zs:=h.below (below_drewN' (Below.refl _ _) k)
theorem OPts.other {row : Option Nat} {x : TypeId} (h : OPts w base A d zs) (hg : w.grownBy w' row) (hk : Kind w row (some x)) (h1 : x ≠ 9) (h2 : x ≠ 34) : OPts w' base A d zs :=
 ⟨own_other h.row hg hk (fun e => h2 (Option.some.inj e)),fun y hy => own_other (h.ths y hy) hg hk (fun e => h1 (Option.some.inj e))⟩
theorem OPts.push (h : OPts w base A d zs) (hg : w.grownBy w' (Value.slice A zs.length d).ownBlock) {x : PtE} (ho : w.ownsRow base 9 1 (.slice x.B x.th.length x.c) x.th.length (strs x.th))
  {A5 : Option Addr} {d5 : Nat} (h5 : w'.ownsRow base 34 2 (.slice A5 (zs.length + 1) d5) (zs.length + 1) (zs.flatMap encP ++ encP x)) : OPts w' base A5 d5 (zs ++ [x]):=by
 have hk:=own_kind h.row
 refine ⟨?_,fun y hy => ?_⟩
 ·have e : (zs ++ [x]).flatMap encP = zs.flatMap encP ++ encP x:=by simp
  rw [e,List.length_append]; exact h5
 ·rcases List.mem_append.1 hy with hy | hy
  ·exact own_other (h.ths y hy) hg hk (by decide)
  ·have : y = x:=by simpa using hy
   rw [this]; exact own_other ho hg hk (by decide)
end

set_option maxRecDepth 100000 in
theorem sortP_any (A : Option Addr) (d base : Nat) (zs : List PtE) (w : World) (ho : OPts w base A d zs) (hl : zs.length ≤ 1000000000) (hth : ∀ x ∈ zs,x.th.length ≤ 1000) :
  Calls Tryz.prog 39 #[.slice A zs.length d,.func (.func 40) #[] #[]] w fun e w' => e = .returned (.tuple #[]) ∧ ∃ ys : List PtE,ys.Perm zs ∧ ys.Pairwise (fun x y => ¬ cfP y x < 0) ∧ OPts w' base A d ys ∧ w.grownBy w' (Value.slice A zs.length d).ownBlock:=by
 let α:={p : PtE // w.ownsRow base 9 1 (.slice p.B p.th.length p.c) p.th.length (strs p.th) ∧ p.th.length ≤ 1000}
 haveI : Inhabited α:=⟨⟨⟨[],[],none,0⟩,World.ownsRow_nil _ _ _ _,Nat.zero_le _⟩⟩
 let zz : List α:=zs.attach.map fun x => ⟨x.1,ho.ths x.1 x.2,hth x.1 x.2⟩
 have hzz : zz.map Subtype.val = zs:=by simp [zz]
 have hzl : zz.length = zs.length:=by simp [zz]
 have hfm : ∀ l : List α,l.flatMap (fun x => encP x.1) = (l.map Subtype.val).flatMap encP:=fun l => by rw [List.flatMap_map]
 have hrow : w.ownsRow base 34 2 (.slice A zz.length d) zz.length (zz.flatMap fun x => encP x.1):=by rw [hfm,hzz,hzl]; exact ho.row
 have h:=sortK_ownM (α:=α) Tryz.sortPt 2 (by omega) Tryz.isAgg34 Tryz.sizeOf34 (fun x => encP x.1) (fun _ => rfl) (fun x => encP_one x.1) (fun x y => cfP x.1 y.1) (cfP_swo _) 40 #[]
  (fun args w => by kernel_rfl) A d base 34 zz w
  (fun x y W hg => lostCmp_any x.1 y.1 base base W (Row.of_own (own_other x.2.1 hg (own_kind hrow) (by decide))) (Row.of_own (own_other y.2.1 hg (own_kind hrow) (by decide))) x.2.2 y.2.2)
  hrow (by rw [hzl]; exact hl)
 rw [hzl] at h
 refine h.mono ?_
 rintro e w' ⟨rfl,ys,hp,hs,hown,hg⟩
 refine ⟨rfl,ys.map Subtype.val,by rw [← hzz]; exact hp.map _,List.pairwise_map.2 hs,⟨?_,?_⟩,hg⟩
 ·have e : (ys.map Subtype.val).length = ys.length:=List.length_map ..
  rw [e,← hfm]; exact hown
 ·intro x hx
  obtain ⟨y,_,rfl⟩:=List.mem_map.1 hx
  exact own_other y.2.1 hg (by have:=own_kind hrow; rw [hzl] at this; exact this) (by decide)

end Go.Proofs.YtpialnjfdbfkdaaGreatDoor
