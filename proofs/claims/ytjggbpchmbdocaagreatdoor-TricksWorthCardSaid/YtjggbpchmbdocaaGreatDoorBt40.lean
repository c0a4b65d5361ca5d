/- Texts of this seat, laid together: HpS HpV. -/
import Derived.Handy
import Derived.Test.YtjggbpchmbdocaaGreatDoorBt29
import Derived.Test.YtjggbpchmbdocaaGreatDoorBt23
import Derived.Test.YtjggbpchmbdocaaGreatDoorBt18
import Derived.Test.YtjggbpchmbdocaaGreatDoorBt00
import Derived.Test.YtjggbpchmbdocaaGreatDoorBt07
import Derived.Test.YtjggbpchmbdocaaGreatDoorBt08
import Derived.Test.YtjggbpchmbdocaaGreatDoorBt03
import Derived.Test.YtjggbpchmbdocaaGreatDoorBt19
import Derived.Test.YtjggbpchmbdocaaGreatDoorBt35
/- Points in memory, their order, and slices.SortFunc over them. -/
set_option linter.unusedVariables false
set_option linter.unusedSimpArgs false
namespace Go.Proofs.YtjggbpchmbdocaaGreatDoor
open Go.RowKit Go.Sort Go.Shelf Go.Lib

structure TotC {α : Type} (f : α → α → Int) : Prop where
  eq : ∀ x y, f x y = 0 ↔ x = y
  flip : ∀ x y, f x y < 0 ↔ 0 < f y x
  trans : ∀ x y z, f x y < 0 → f y z < 0 → f x z < 0
def sgnS (x y : List UInt8) : Int:=if x < y then -1 else if y < x then 1 else 0
theorem ltS_or (x y : List UInt8) : x < y ∨ x = y ∨ y < x:=by
 by_cases h : x < y
 ·exact .inl h
 ·by_cases e : y = x
  ·exact .inr (.inl e.symm)
  ·exact .inr (.inr (leS_lt (show y ≤ x from h) (Ne.symm e)))
theorem sgnS_tot : TotC sgnS:=by
 refine ⟨fun x y => ?_,fun x y => ?_,fun x y z h1 h2 => ?_⟩
 ·unfold sgnS
  constructor
  ·intro h
   split at h
   ·omega
   ·split at h
    ·omega
    ·rename_i a b
     rcases ltS_or x y with h | h | h
     ·exact absurd h a
     ·exact h
     ·exact absurd h b
  ·rintro rfl
   rw [if_neg (ltS_irr _),if_neg (ltS_irr _)]
 ·unfold sgnS
  by_cases a : x < y
  ·have b : ¬ y < x:=fun b => ltS_irr _ (List.lt_trans a b)
   rw [if_pos a,if_neg b,if_pos a]; decide
  ·rw [if_neg a]
   by_cases b : y < x
   ·rw [if_pos b,if_pos b]; decide
   ·rw [if_neg b,if_neg b,if_neg a]
 ·unfold sgnS at *
  have e1 : x < y:=by
   by_cases a : x < y
   ·exact a
   ·rw [if_neg a] at h1; split at h1 <;> omega
  have e2 : y < z:=by
   by_cases a : y < z
   ·exact a
   ·rw [if_neg a] at h2; split at h2 <;> omega
  rw [if_pos (List.lt_trans e1 e2)]; decide
def cmpLS : List (List UInt8) → List (List UInt8) → Int
 | [],[] => 0
 | [],_ :: _ => -1
 | _ :: _,[] => 1
 | x :: xs,y :: ys => if sgnS x y ≠ 0 then sgnS x y else cmpLS xs ys
theorem cmpLS_eq : ∀ x y,cmpLS x y = 0 ↔ x = y
 | [],[] => by simp [cmpLS]
 | [],_ :: _ => by simp [cmpLS]
 | _ :: _,[] => by simp [cmpLS]
 | a :: x,b :: y => by
  unfold cmpLS;have h:=sgnS_tot.eq a b
  by_cases c : sgnS a b = 0
  ·rw [if_neg (by simp [c]),cmpLS_eq x y,h.1 c]; simp
  ·rw [if_pos c]
   constructor
   ·intro h2; exact absurd h2 c
   ·intro h2; injection h2 with h3 _; exact absurd (h.2 h3) c
theorem cmpLS_flip : ∀ x y,cmpLS x y < 0 ↔ 0 < cmpLS y x
 | [],[] => by simp [cmpLS]
 | [],_ :: _ => by simp [cmpLS]
 | _ :: _,[] => by simp [cmpLS]
 | a :: x,b :: y => by
  unfold cmpLS;have h:=sgnS_tot.eq a b;have h':=sgnS_tot.eq b a
  by_cases c : sgnS a b = 0
  ·have c':=h'.2 (h.1 c).symm
   rw [if_neg (by simp [c]),if_neg (by simp [c']),cmpLS_flip x y]
  ·have c' : sgnS b a ≠ 0:=fun e => c (h.2 (h'.1 e).symm)
   rw [if_pos c,if_pos c'];exact sgnS_tot.flip a b
theorem cmpLS_trans : ∀ x y z,cmpLS x y < 0 → cmpLS y z < 0 → cmpLS x z < 0
 | [],[],_,h,_ => by simp [cmpLS] at h
 | [],_ :: _,[],_,h => by simp [cmpLS] at h
 | [],_ :: _,_ :: _,_,_ => by simp [cmpLS]
 | _ :: _,[],_,h,_ => by simp [cmpLS] at h
 | _ :: _,_ :: _,[],_,h => by simp [cmpLS] at h
 | a :: x,b :: y,c :: z,h1,h2 => by
  unfold cmpLS at h1 h2 ⊢
  by_cases e1 : sgnS a b = 0
  ·rw [if_neg (by simp [e1])] at h1
   have:=(sgnS_tot.eq a b).1 e1;subst this
   by_cases e2 : sgnS a c = 0
   ·rw [if_neg (by simp [e2])] at h2 ⊢
    exact cmpLS_trans x y z h1 h2
   ·rw [if_pos e2] at h2 ⊢; exact h2
  ·rw [if_pos e1] at h1
   by_cases e2 : sgnS b c = 0
   ·have:=(sgnS_tot.eq b c).1 e2
    subst this;rw [if_pos e1]; exact h1
   ·rw [if_pos e2] at h2
    have:=sgnS_tot.trans a b c h1 h2;rw [if_pos (by omega)]; exact this
theorem cmpLS_tot : TotC cmpLS:=⟨cmpLS_eq,cmpLS_flip,cmpLS_trans⟩
theorem cmpLS_hit : ∀ (a b : List (List UInt8)) (k : Nat) (hk : k < a.length) (hk' : k < b.length),a.take k = b.take k → sgnS a[k] b[k] ≠ 0 → cmpLS a b = sgnS a[k] b[k]
 | [],_,k,hk,_,_,_ => by simp at hk
 | _ :: _,[],k,_,hk',_,_ => by simp at hk'
 | x :: a,y :: b,0,_,_,_,h => by simp only [List.getElem_cons_zero] at h ⊢; unfold cmpLS; rw [if_pos h]
 | x :: a,y :: b,k + 1,hk,hk',h0,h => by
  simp only [List.take_succ_cons,List.cons.injEq] at h0;simp only [List.getElem_cons_succ] at h ⊢;unfold cmpLS;rw [if_neg (by rw [(sgnS_tot.eq x y).2 h0.1]; simp)];exact cmpLS_hit a b k (by simpa using hk) (by simpa using hk') h0.2 h
theorem cmpLS_long : ∀ (a b : List (List UInt8)),b.length < a.length → a.take b.length = b → cmpLS a b = 1
 | [],_,h,_ => by simp at h
 | _ :: _,[],_,_ => rfl
 | x :: a,y :: b,h,e => by
  simp only [List.length_cons,List.take_succ_cons,List.cons.injEq] at e h;unfold cmpLS;rw [if_neg (by rw [(sgnS_tot.eq x y).2 e.1]; simp)];exact cmpLS_long a b (by omega) e.2
theorem cmpLS_short : ∀ (a b : List (List UInt8)),a.length < b.length → b.take a.length = a → cmpLS a b = -1
 | _,[],h,_ => by simp at h
 | [],_ :: _,_,_ => rfl
 | x :: a,y :: b,h,e => by
  simp only [List.length_cons,List.take_succ_cons,List.cons.injEq] at e h;unfold cmpLS;rw [if_neg (by rw [(sgnS_tot.eq x y).2 e.1.symm]; simp)];exact cmpLS_short a b (by omega) e.2
set_option maxHeartbeats 400000 in
theorem cmpS_any (x y : List UInt8) (w : World) : Calls Tryz.prog 146 #[.string ⟨x.toArray⟩,.string ⟨y.toArray⟩] w fun e w' => e = .returned (.int .i64 (sgnS x y)) ∧ w = w':=by
 have h1:=bytesLess_eq x y;have h2:=bytesLess_eq y x
 by_cases a : x < y
 ·have e : sgnS x y = -1:=by unfold sgnS; rw [if_pos a]
  rw [decide_eq_true a] at h1;rw [e];clear a e
  go_enter Tryz.func146,Tryz.ntmps146
  go_wp2_with (first | (go_at_call 186; refine (nanC_any _ _).mono ?_; rintro e w1 ⟨rfl,rfl⟩))
  go_ret;exact ⟨rfl,rfl⟩
 ·rw [decide_eq_false a] at h1
  by_cases b : y < x
  ·have e : sgnS x y = 1:=by unfold sgnS; rw [if_neg a,if_pos b]
   have h3 : (x == y) = false:=beq_eq_false_iff_ne.2 (fun e => by subst e; exact ltS_irr _ b);rw [e];clear a b e h2
   go_enter Tryz.func146,Tryz.ntmps146
   go_wp2_with (first | (go_at_call 186; refine (nanC_any _ _).mono ?_; rintro e w1 ⟨rfl,rfl⟩))
   go_ret;exact ⟨rfl,rfl⟩
  ·have e : sgnS x y = 0:=by unfold sgnS; rw [if_neg a,if_neg b]
   have h3 : (x == y) = true:=beq_iff_eq.2 ((sgnS_tot.eq x y).1 e);rw [e];clear a b e h2
   go_enter Tryz.func146,Tryz.ntmps146
   go_wp2_with (first | (go_at_call 186; refine (nanC_any _ _).mono ?_; rintro e w1 ⟨rfl,rfl⟩))
   go_ret;exact ⟨rfl,rfl⟩
set_option maxHeartbeats 1000000 in
theorem compareS_any (A B : Option Addr) (c d lo lo' : Nat) (a b : List (List UInt8)) (w : World) (hr : Row w lo 1 A a.length (strs a)) (hr' : Row w lo' 1 B b.length (strs b)) (hl : a.length ≤ 1000000000) (hl' : b.length ≤ 1000000000) :
  Calls Tryz.prog 90 #[.slice A a.length c,.slice B b.length d] w fun e w' => e = .returned (.int .i64 (cmpLS a b)) ∧ w = w':=by
 go_enter Tryz.func90,Tryz.ntmps90
 go_wp2_with fail
 go_loop [11] (fun i => ∃ (k : Nat),k ≤ a.length ∧ k ≤ b.length ∧ i = .int .i64 k ∧ Hid (a.take k = b.take k)) (fun i => a.length - (intOf i).toNat)
 case atStart => exact ⟨0,Nat.zero_le _,Nat.zero_le _,rfl,Lib.hid rfl⟩
 case round =>
  obtain ⟨k,hk,hkb,rfl,htk⟩:=hrel
  by_cases hlt : k < a.length
  ·obtain ⟨p,off,rfl,hbs,hcs⟩:=strs_at hr hlt
   have c0:=hcs k hlt
   by_cases hlt' : k < b.length
   ·obtain ⟨p',off',rfl,hbs',hcs'⟩:=strs_at hr' hlt'
    have d0:=hcs' k hlt';have g0 : decide (b.length ≤ k) = false:=decide_eq_false (by omega);have HH:=Lib.hid (cmpLS_hit a b k hlt hlt' htk.out);have HT : Hid (a[k] = b[k] → a.take (k + 1) = b.take (k + 1)):=Lib.hid (fun h => by rw [List.take_succ_eq_append_getElem hlt,List.take_succ_eq_append_getElem hlt',htk.out,h]);clear hcs hcs';generalize a[k] = x at *;generalize b[k] = y at *;simp only [encStr] at c0 d0;go_wp2_with fail;refine (cmpS_any _ _ _).mono ?_;rintro e w1 ⟨rfl,rfl⟩;have HE:=Lib.hid ((sgnS_tot.eq x y).1);generalize sgnS x y = sg at *
    by_cases he : sg = 0
    ·have HN : Hid (a.take (k + 1) = b.take (k + 1)):=Lib.hid (HT.out (HE.out he))
     have g : (sg != 0) = false:=by simpa using he
     clear he;go_wp2_with fail;go_round
     case rel => exact ⟨k + 1,by omega,by omega,by go_num,HN⟩
     case measure => simp [intOf]; omega
    ·have g : (sg != 0) = true:=by simpa using he
     have HN:=Lib.hid (HH.out he);clear he;go_wp2_with fail;go_ret;exact ⟨ret_int' HN.out.symm,rfl⟩
   ·have hkb' : k = b.length:=by omega
    have HN : Hid (cmpLS a b = 1):=Lib.hid (cmpLS_long a b (by omega) (by rw [← hkb',htk.out,hkb',List.take_length]));have g0 : decide (b.length ≤ k) = true:=decide_eq_true (by omega);clear hkb';simp only [encStr] at c0;go_wp2_with fail;go_ret;exact ⟨ret_int' HN.out.symm,rfl⟩
  ·have hka : k = a.length:=by omega
   by_cases hlt' : a.length < b.length
   ·have HN : Hid (cmpLS a b = -1):=Lib.hid (cmpLS_short a b hlt' (by rw [← hka,← htk.out,hka,List.take_length]))
    have g : decide (a.length < b.length) = true:=decide_eq_true hlt';clear hka;go_wp2_with fail;go_ret;exact ⟨ret_int' HN.out.symm,rfl⟩
   ·have HN : Hid (cmpLS a b = 0):=Lib.hid ((cmpLS_eq a b).2 (by
     have:=htk.out
     rwa [List.take_of_length_le (by omega),List.take_of_length_le (by omega)] at this))
    have g : decide (a.length < b.length) = false:=decide_eq_false hlt';clear hka;go_wp2_with fail;go_ret;exact ⟨ret_int' HN.out.symm,rfl⟩

set_option maxHeartbeats 400000 in
theorem orP_any (A : Option Addr) (c lo : Nat) (l : List Int) (w : World) (hr : Row w lo 1 A l.length (ints l)) (hl : l.length ≤ 1000000000) :
  Calls Tryz.prog 88 #[.slice A l.length c] w fun e w' => e = .returned (.int .i64 (firstE l)) ∧ w = w':=by
 go_enter Tryz.func88,Tryz.ntmps88
 go_wp2_with fail
 go_loop [8] (fun i => ∃ k : Nat,k ≤ l.length ∧ i = .int .i64 k ∧ Hid (∀ y ∈ l.take k,y = 0)) (fun i => l.length - (intOf i).toNat)
 case atStart => exact ⟨0,Nat.zero_le _,rfl,Lib.hid (by simp)⟩
 case round =>
  obtain ⟨k,hk,rfl,hno⟩:=hrel
  by_cases hlt : k < l.length
  ·obtain ⟨b,off,rfl,_,hbs,c0⟩:=hr.int_at hlt
   by_cases he : l[k] = 0
   ·have he' : (l[k] != 0) = false:=by simpa using he
    have HN:=Lib.hid (take_zero_snoc hno.out hlt he);clear he;go_wp2_with fail;go_round
    case rel => exact ⟨k + 1,by omega,by go_num,HN⟩
    case measure => simp [intOf]; omega
   ·have he' : (l[k] != 0) = true:=by simpa using he
    have HV:=Lib.hid (firstE_hit l k hlt hno.out he);clear he;go_wp2_with fail;go_ret;exact ⟨ret_int' HV.out.symm,rfl⟩
  ·have HV : Hid (firstE l = 0):=Lib.hid (firstE_none l (by have:=hno.out; rwa [List.take_of_length_le (by omega)] at this))
   go_wp2_with fail;go_ret;exact ⟨ret_int' HV.out.symm,rfl⟩

structure PtE where
  room : List UInt8
  th : List (List UInt8)
  B : Option Addr
  c : Nat
instance : Inhabited PtE := ⟨⟨[], [], none, 0⟩⟩
def encP (x : PtE) : List Value:=[.string ⟨x.room.toArray⟩,.slice x.B x.th.length x.c]
def cfP (x y : PtE) : Int:=firstE [Lib.compareBytes x.room y.room,cmpLS x.th y.th]
structure OPts (w : World) (base : Nat) (A : Option Addr) (d : Nat) (zs : List PtE) : Prop where
  row : w.ownsRow base 35 2 (.slice A zs.length d) zs.length (zs.flatMap encP)
  ths : ∀ x ∈ zs, w.ownsRow base 9 1 (.slice x.B x.th.length x.c) x.th.length (strs x.th)
section
variable {w w' : World} {base : Nat} {A : Option Addr} {d : Nat} {zs : List PtE}
theorem OPts.nil (w : World) (base : Nat) : OPts w base none 0 []:=⟨World.ownsRow_nil _ _ _ _,fun x h => by cases h⟩
theorem OPts.below (h : OPts w base A d zs) (hb : Below w.heap.size w w') : OPts w' base A d zs:=⟨own_keep h.row hb,fun x hx => own_keep (h.ths x hx) hb⟩
theorem OPts.alloc (h : OPts w base A d zs) (o : Obj) : OPts (w.alloc o) base A d zs:=h.below ((Below.refl _ _).alloc (Nat.le_refl _) o)
theorem OPts.drew (h : OPts w base A d zs) : OPts w.drew base A d zs:=h.below (Below.refl _ _).drew
theorem OPts.drewN (h : OPts w base A d zs) (k : Nat) : OPts (w.drewN k) base A d zs:=h.below (below_drewN' (Below.refl _ _) k)
theorem OPts.other {row : Option Nat} {x : TypeId} (h : OPts w base A d zs) (hg : w.grownBy w' row) (hk : Kind w row (some x)) (h1 : x ≠ 9) (h2 : x ≠ 35) : OPts w' base A d zs :=
 ⟨own_other h.row hg hk (fun e => h2 (Option.some.inj e)),fun y hy => own_other (h.ths y hy) hg hk (fun e => h1 (Option.some.inj e))⟩
theorem OPts.push (h : OPts w base A d zs) (hg : w.grownBy w' (Value.slice A zs.length d).ownBlock) {x : PtE} (ho : w.ownsRow base 9 1 (.slice x.B x.th.length x.c) x.th.length (strs x.th))
  {A5 : Option Addr} {d5 : Nat} (h5 : w'.ownsRow base 35 2 (.slice A5 (zs.length + 1) d5) (zs.length + 1) (zs.flatMap encP ++ encP x)) : OPts w' base A5 d5 (zs ++ [x]):=by
 have hk:=own_kind h.row;refine ⟨?_,fun y hy => ?_⟩
 ·have e : (zs ++ [x]).flatMap encP = zs.flatMap encP ++ encP x:=by simp
  rw [e,List.length_append]; exact h5
 ·rcases List.mem_append.1 hy with hy | hy
  ·exact own_other (h.ths y hy) hg hk (by decide)
  ·have : y = x:=by simpa using hy
   rw [this]; exact own_other ho hg hk (by decide)
end

end Go.Proofs.YtjggbpchmbdocaaGreatDoor
/- Which states are reached, plain; and what Lost and Reached tell. -/
namespace Go.Proofs.YtjggbpchmbdocaaGreatDoor
open Go.RowKit

inductive ReachX (nx : StE → List (Nat × StE)) (ef : StE → Bool) (x : StE) : StE → Prop
  | refl : ReachX nx ef x x
  | step {y z : StE} {k : Nat} : ReachX nx ef x y → ef y = false → (k, z) ∈ nx y → ReachX nx ef x z
section
variable {nx : StE → List (Nat × StE)} {ef : StE → Bool} {gd : StE → Prop} {tm : Nat → Int} {s0 x y z : StE} {sts : List StE} {stp : List (List (Nat × Nat))}
theorem ReachX.head {k : Nat} (hf : ef x = false) (hm : (k,y) ∈ nx x) (h : ReachX nx ef y z) : ReachX nx ef x z:=by
 induction h with
 | refl => exact .step .refl hf hm
 | step _ h1 h2 ih => exact .step ih h1 h2
theorem way_of_reach (h : ReachX nx ef x y) (hy : ef y = true) : ∃ t d ks,WayX nx ef tm x t d ks:=by
 have key : ∀ {z},ReachX nx ef x z → (∃ t d ks,WayX nx ef tm z t d ks) → ∃ t d ks,WayX nx ef tm x t d ks:=by
  intro z hz
  induction hz with
  | refl => exact id
  | step _ h1 h2 ih => rintro ⟨t,d,ks,hw⟩; exact ih ⟨_,_,_,.go h1 h2 hw⟩
 exact key h ⟨_,_,_,.stop hy⟩
theorem reach_of_way {t d : Int} {ks : List Nat} (h : WayX nx ef tm x t d ks) : ∃ y,ReachX nx ef x y ∧ ef y = true:=by
 induction h with
 | stop h => exact ⟨_,.refl,h⟩
 | go h1 h2 _ ih => obtain ⟨y,h3,h4⟩:=ih; exact ⟨y,h3.head h1 h2,h4⟩
theorem ReachX.never (h : ReachX nx ef x y) : ReachX nx (fun _ => false) x y:=by
 induction h with
 | refl => exact .refl
 | step _ _ h2 ih => exact .step ih rfl h2
theorem way_of_never (h : ReachX nx (fun _ => false) x y) (hy : ef y = true) : ∃ t d ks,WayX nx ef tm x t d ks:=by
 have key : ∀ {z},ReachX nx (fun _ => false) x z → (∃ t d ks,WayX nx ef tm x t d ks) ∨ ReachX nx ef x z:=by
  intro z hz
  induction hz with
  | refl => exact .inr .refl
  | @step y' _ _ _ _ h2 ih =>
   rcases ih with h | h
   ·exact .inl h
   ·cases he : ef y' with
    | true => exact .inl (way_of_reach h he)
    | false => exact .inr (.step h he h2)
 rcases key h with h | h
 ·exact h
 ·exact way_of_reach h hy
end
def thX (T : List (List UInt8)) (b : Nat) : List (List UInt8):=T.filter fun s => b.testBit (T.idxOf s)
theorem thX_bits (T th : List (List UInt8)) : thX T (bitsT T th) = T.filter fun x => decide (x ∈ th):=by
 unfold thX bitsT
 refine List.filter_congr fun s hs => ?_
 have hl:=List.idxOf_lt_length_of_mem hs;rw [bitsN_test,decide_eq_true hl,Bool.true_and,List.getD_eq_getElem?_getD,List.getElem?_eq_getElem hl,List.getElem_idxOf];rfl
def ptX (rs : List RoomE) (T : List (List UInt8)) (x : StE) : List UInt8 × List (List UInt8):=((rs.getD x.r default).key,thX T x.b)
theorem ptX_st {rs : List RoomE} {T : List (List UInt8)} {room : List UInt8} {th : List (List UInt8)} (hr : room ∈ rs.map RoomE.key) (hT : T.Pairwise (· < ·)) (ht : ThOk T th) : ptX rs T (stX rs T room th) = (room,th):=by
 unfold ptX stX;simp only;rw [thX_bits,list_bits hT ht,List.getD_eq_getElem?_getD,List.getElem?_eq_getElem (ixR_lt hr)];exact congrArg (·,th) (ixR_key hr)
theorem GoodX.st {rs : List RoomE} {T : List (List UInt8)} {x : StE} (h : GoodX rs T x) (hs : x.s = 0) : ∃ room th,room ∈ rs.map RoomE.key ∧ ThOk T th ∧ x = stX rs T room th:=by
 obtain ⟨⟨room,hr,e1⟩,⟨th,ht,e2⟩,_⟩:=h;refine ⟨room,th,hr,ht,?_⟩
 cases x
 simp only at e1 e2 hs;subst e1 e2 hs;rfl
theorem reach_s {rs : List RoomE} {T : List (List UInt8)} {ds : List DoorE} {tr : List (List UInt8)} {wo : List UInt8} {ef : StE → Bool} {x y : StE} (h : ReachX (nxX rs T ds tr wo id) ef x y) (hx : x.s = 0) : y.s = 0:=by
 induction h with
 | refl => exact hx
 | step _ _ h2 ih =>
  obtain ⟨_,z,hz,e,_,_⟩:=nxX_mem h2;simp only at hz e;unfold passX at hz
  split at hz
  ·injection hz with hz
   rw [e,← hz]; exact ih
  ·cases hz
noncomputable def lostB (nx : StE → List (Nat × StE)) (ef : StE → Bool) (tm : Nat → Int) (x : StE) : Bool:=@decide (∀ t d ks,¬ WayX nx ef tm x t d ks) (Classical.propDecidable _)
theorem lostB_iff {nx : StE → List (Nat × StE)} {ef : StE → Bool} {tm : Nat → Int} {x : StE} : lostB nx ef tm x = true ↔ ∀ t d ks,¬ WayX nx ef tm x t d ks:=by
 unfold lostB; exact @decide_eq_true_iff _ (Classical.propDecidable _)
theorem LeastT.lost {nx : StE → List (Nat × StE)} {ef : StE → Bool} {tm : Nat → Int} {x : StE} {v : Int} (h : LeastT nx ef tm x v) : decide (v < 0) = lostB nx ef tm x:=by
 rcases h with ⟨rfl,h1⟩ | ⟨h0,⟨d,ks,h1⟩,_⟩
 ·rw [lostB_iff.2 h1]; decide
 ·have : lostB nx ef tm x = false:=by
   cases hb : lostB nx ef tm x with
   | false => rfl
   | true => exact absurd h1 (lostB_iff.1 hb _ _ _)
  rw [this]; exact decide_eq_false (by omega)
def LostOk (rs : List RoomE) (ds : List DoorE) (T tr : List (List UInt8)) (st gl : List UInt8) (zs : List PtE) : Prop :=
 ∃ sts : List StE,sts.Nodup ∧ (∀ x ∈ sts,GoodX rs T x) ∧ (∀ y,y ∈ sts ↔ ReachX (nxX rs T ds tr [] id) (goalX rs gl) (st0 rs T st) y) ∧
  (zs.map fun z => (z.room,z.th)).Perm ((sts.filter (lostB (nxX rs T ds tr [] id) (goalX rs gl) (tmX ds))).map (ptX rs T)) ∧ zs.Pairwise (fun x y => ¬ cfP y x < 0)
def ReachOk (rs : List RoomE) (ds : List DoorE) (T tr : List (List UInt8)) (st : List UInt8) (l : List (List UInt8)) : Prop :=
 ∃ sts : List StE,(∀ x ∈ sts,GoodX rs T x) ∧ (∀ y,y ∈ sts ↔ ReachX (nxX rs T ds tr [] id) (fun _ => false) (st0 rs T st) y) ∧ l = onceT (sts.map fun x => (rs.getD x.r default).key)
section
variable {rs : List RoomE} {ds : List DoorE} {T tr : List (List UInt8)} {st gl : List UInt8} {zs : List PtE} {l : List (List UInt8)}
theorem LostOk.mem (h : LostOk rs ds T tr st gl zs) (hT : T.Pairwise (· < ·)) {z : PtE} (hz : z ∈ zs) : z.room ∈ rs.map RoomE.key ∧ ThOk T z.th ∧ ReachX (nxX rs T ds tr [] id) (goalX rs gl) (st0 rs T st) (stX rs T z.room z.th) ∧ ∀ t d ks,¬ WayX (nxX rs T ds tr [] id) (goalX rs gl) (tmX ds) (stX rs T z.room z.th) t d ks:=by
 obtain ⟨sts,_,hg,hr,hp,_⟩:=h;have:=hp.mem_iff.1 (List.mem_map.2 ⟨z,hz,rfl⟩);obtain ⟨x,hx,e⟩:=List.mem_map.1 this;obtain ⟨hx,hl⟩:=List.mem_filter.1 hx;have hrx:=(hr x).1 hx;obtain ⟨room,th,h1,h2,e2⟩:=(hg x hx).st (reach_s hrx rfl);rw [e2,ptX_st h1 hT h2] at e;injection e with e3 e4;subst e3 e4;rw [e2] at hrx hl;exact ⟨h1,h2,hrx,lostB_iff.1 hl⟩
theorem ReachOk.mem (h : ReachOk rs ds T tr st l) {room : List UInt8} (hr : room ∈ rs.map RoomE.key) {th : List (List UInt8)} (hx : ReachX (nxX rs T ds tr [] id) (fun _ => false) (st0 rs T st) (stX rs T room th)) : room ∈ l:=by
 obtain ⟨sts,_,h1,rfl⟩:=h;rw [(onceT_spec _).2];refine List.mem_map.2 ⟨_,(h1 _).2 hx,?_⟩;show (rs.getD (ixR rs room) default).key = room;rw [List.getD_eq_getElem?_getD,List.getElem?_eq_getElem (ixR_lt hr)];exact ixR_key hr
theorem ReachOk.of (h : ReachOk rs ds T tr st l) {room : List UInt8} (hm : room ∈ l) : ∃ th,room ∈ rs.map RoomE.key ∧ ThOk T th ∧ ReachX (nxX rs T ds tr [] id) (fun _ => false) (st0 rs T st) (stX rs T room th):=by
 obtain ⟨sts,hg,h1,rfl⟩:=h;rw [(onceT_spec _).2] at hm;obtain ⟨x,hx,e⟩:=List.mem_map.1 hm;have hrx:=(h1 x).1 hx;obtain ⟨room',th,h2,h3,e2⟩:=(hg x hx).st (reach_s hrx rfl);subst e2;have e : (rs.getD (ixR rs room') default).key = room:=e;rw [List.getD_eq_getElem?_getD,List.getElem?_eq_getElem (ixR_lt h2)] at e;have e' : (rs[ixR rs room']'(ixR_lt h2)).key = room:=e;rw [ixR_key h2] at e';subst e';exact ⟨th,h2,h3,hrx⟩
theorem FaQ.reach (h : ReachOk rs ds T tr st l) (hR : Right rs ds st gl) {K : List (List UInt8)} {t : Int} {is : Bool} (hq : ∃ r : PathR,PathOk (nxX rs T ds tr [] id) (goalX rs gl) (tmX ds) (st0 rs T st) (nS rs T) r ∧ K = r.ks.map (keyX ds) ∧ t = r.t ∧ is = r.is) : is = decide (gl ∈ l):=by
 obtain ⟨r,h1,_,_,rfl⟩:=hq
 cases hi : r.is with
 | true =>
  obtain ⟨⟨d,hw⟩,_⟩:=h1.yes hi;obtain ⟨y,hy,hg⟩:=reach_of_way hw;obtain ⟨sts,hgd,h2,rfl⟩:=h;have hrx:=hy.never;have hym:=(h2 y).2 hrx;obtain ⟨room,th,hrm,_,e⟩:=(hgd y hym).st (reach_s hrx rfl);subst e;have : room = gl:=(goalX_room hR hrm).1 hg;subst this;refine (decide_eq_true ?_).symm;rw [(onceT_spec _).2];refine List.mem_map.2 ⟨_,hym,?_⟩;show (rs.getD (ixR rs room) default).key = room;rw [List.getD_eq_getElem?_getD,List.getElem?_eq_getElem (ixR_lt hrm)];exact ixR_key hrm
 | false =>
  refine (decide_eq_false fun hm => ?_).symm;obtain ⟨th,h2,_,h3⟩:=h.of hm;obtain ⟨t,d,ks,hw⟩:=way_of_never (ef:=goalX rs gl) (tm:=tmX ds) h3 ((goalX_room hR h2).2 rfl);exact (h1.no hi).2 _ _ _ hw
end
end Go.Proofs.YtjggbpchmbdocaaGreatDoor
