/- Texts of this seat, laid together: SpA SpB. -/
import Derived.Lib.Join
import Derived.Test.YtjggbpchmbdocaaGreatDoorBl39
import Derived.Test.YtjggbpchmbdocaaGreatDoorBl40
import Derived.Test.YtjggbpchmbdocaaGreatDoorBl10
import Derived.Test.YtjggbpchmbdocaaGreatDoorBl38
/- The plain theory of spreadOut: the best ways from a beginning to all stands, found by trying all doors until nothing gets better. -/
set_option linter.unusedVariables false
set_option linter.unusedSimpArgs false
namespace Go.Proofs.YtjggbpchmbdocaaGreatDoor
open Go.RowKit

def ltL : List Nat → List Nat → Prop
 | [],[] => False
 | [],_ :: _ => True
 | _ :: _,[] => False
 | a :: x,b :: y => a < b ∨ a = b ∧ ltL x y
theorem ltL_irr : ∀ x, ¬ ltL x x
  | [] => id
  | a :: x => fun h => by rcases h with h | ⟨_, h⟩; · omega
                          · exact ltL_irr x h
theorem ltL_trans : ∀ x y z,ltL x y → ltL y z → ltL x z
 | [],[],_,h,_ => h.elim
 | [],_ :: _,[],_,h => h.elim
 | [],_ :: _,_ :: _,_,_ => trivial
 | _ :: _,[],_,h,_ => h.elim
 | _ :: _,_ :: _,[],_,h => h.elim
 | a :: x,b :: y,c :: z,h1,h2 => by
  rcases h1 with h1 | ⟨e1,h1⟩ <;> rcases h2 with h2 | ⟨e2,h2⟩
  ·exact .inl (by omega)
  ·exact .inl (by omega)
  ·exact .inl (by omega)
  ·exact .inr ⟨by omega,ltL_trans x y z h1 h2⟩
theorem ltL_tot : ∀ x y,ltL x y ∨ x = y ∨ ltL y x
 | [],[] => .inr (.inl rfl)
 | [],_ :: _ => .inl trivial
 | _ :: _,[] => .inr (.inr trivial)
 | a :: x,b :: y => by
  rcases Nat.lt_trichotomy a b with h | h | h
  ·exact .inl (.inl h)
  ·subst h
   rcases ltL_tot x y with h | h | h
   ·exact .inl (.inr ⟨rfl,h⟩)
   ·exact .inr (.inl (by rw [h]))
   ·exact .inr (.inr (.inr ⟨rfl,h⟩))
  ·exact .inr (.inr (.inl h))
theorem ltL_app : ∀ x y : List Nat,x.length = y.length → ∀ k,ltL (x ++ [k]) (y ++ [k]) ↔ ltL x y
 | [],[],_,k => by simp [ltL]
 | [],_ :: _,h,_ => by simp at h
 | _ :: _,[],h,_ => by simp at h
 | a :: x,b :: y,h,k => by
  show a < b ∨ a = b ∧ ltL (x ++ [k]) (y ++ [k]) ↔ a < b ∨ a = b ∧ ltL x y
  rw [ltL_app x y (by simpa using h) k]
abbrev PwE := Int × List Nat
def ltP (a b : PwE) : Prop:=a.1 < b.1 ∨ a.1 = b.1 ∧ (a.2.length < b.2.length ∨ a.2.length = b.2.length ∧ ltL a.2 b.2)
theorem ltP_irr (a : PwE) : ¬ ltP a a:=fun h => by
 rcases h with h | ⟨_,h | ⟨_,h⟩⟩
 ·omega
 ·omega
 ·exact ltL_irr _ h
theorem ltP_trans {a b c : PwE} (h1 : ltP a b) (h2 : ltP b c) : ltP a c:=by
 unfold ltP at *
 rcases h1 with h1 | ⟨e1,h1 | ⟨f1,h1⟩⟩ <;> rcases h2 with h2 | ⟨e2,h2 | ⟨f2,h2⟩⟩
 ·exact .inl (by omega)
 ·exact .inl (by omega)
 ·exact .inl (by omega)
 ·exact .inl (by omega)
 ·exact .inr ⟨by omega,.inl (by omega)⟩
 ·exact .inr ⟨by omega,.inl (by omega)⟩
 ·exact .inl (by omega)
 ·exact .inr ⟨by omega,.inl (by omega)⟩
 ·exact .inr ⟨by omega,.inr ⟨by omega,ltL_trans _ _ _ h1 h2⟩⟩
theorem ltP_tot (a b : PwE) : ltP a b ∨ a = b ∨ ltP b a:=by
 unfold ltP
 rcases Int.lt_trichotomy a.1 b.1 with h | h | h
 ·exact .inl (.inl h)
 ·rcases Nat.lt_trichotomy a.2.length b.2.length with g | g | g
  ·exact .inl (.inr ⟨h,.inl g⟩)
  ·rcases ltL_tot a.2 b.2 with l | l | l
   ·exact .inl (.inr ⟨h,.inr ⟨g,l⟩⟩)
   ·exact .inr (.inl (Prod.ext h l))
   ·exact .inr (.inr (.inr ⟨h.symm,.inr ⟨g.symm,l⟩⟩))
  ·exact .inr (.inr (.inr ⟨h.symm,.inl g⟩))
 ·exact .inr (.inr (.inl h))
def leP (a b : PwE) : Prop:=¬ ltP b a
theorem leP_refl (a : PwE) : leP a a:=ltP_irr a
theorem leP_trans {a b c : PwE} (h1 : leP a b) (h2 : leP b c) : leP a c:=fun h => by
 rcases ltP_tot a b with g | g | g
 ·exact h2 (ltP_trans h g)
 ·subst g; exact h2 h
 ·exact h1 g
theorem leP_anti {a b : PwE} (h1 : leP a b) (h2 : leP b a) : a = b:=by
 rcases ltP_tot a b with g | g | g
 ·exact absurd g h2
 ·exact g
 ·exact absurd g h1
theorem leP_of_lt {a b : PwE} (h : ltP a b) : leP a b:=fun g => ltP_irr _ (ltP_trans h g)
def extP (tm : Nat → Int) (a : PwE) (k : Nat) : PwE:=(a.1 + tm k,a.2 ++ [k])
theorem extP_lt (tm : Nat → Int) (a b : PwE) (k : Nat) : ltP (extP tm a k) (extP tm b k) ↔ ltP a b:=by
 unfold ltP extP
 simp only [List.length_append,List.length_cons,List.length_nil]
 constructor
 ·rintro (h | ⟨h,h2 | ⟨h2,h3⟩⟩)
  ·exact .inl (by omega)
  ·exact .inr ⟨by omega,.inl (by omega)⟩
  ·exact .inr ⟨by omega,.inr ⟨by omega,(ltL_app _ _ (by omega) k).1 h3⟩⟩
 ·rintro (h | ⟨h,h2 | ⟨h2,h3⟩⟩)
  ·exact .inl (by omega)
  ·exact .inr ⟨by omega,.inl (by omega)⟩
  ·exact .inr ⟨by omega,.inr ⟨by omega,(ltL_app _ _ h2 k).2 h3⟩⟩
theorem extP_le {tm : Nat → Int} {a b : PwE} (h : leP a b) (k : Nat) : leP (extP tm a k) (extP tm b k):=fun g => h ((extP_lt tm b a k).1 g)
inductive WayF (nx : StE → List (Nat × StE)) (ef : StE → Bool) (tm : Nat → Int) (s0 : StE) : StE → PwE → Prop
  | nil : WayF nx ef tm s0 s0 (0, [])
  | snoc {x y : StE} {k : Nat} {a : PwE} : WayF nx ef tm s0 x a → ef x = false → (k, y) ∈ nx x → WayF nx ef tm s0 y (extP tm a k)
section
variable {nx : StE → List (Nat × StE)} {ef : StE → Bool} {tm : Nat → Int} {s0 x y : StE} {a b : PwE}
theorem WayF.bnd (ht : ∀ x p,p ∈ nx x → 1 ≤ tm p.1) (h : WayF nx ef tm s0 x a) : (a.2.length : Int) ≤ a.1:=by
 induction h with
 | nil => exact Int.le_refl _
 | @snoc x y k a _ _ hm ih =>
  have:=ht _ _ hm
  unfold extP
  simp only [List.length_append,List.length_cons,List.length_nil] at *
  omega
theorem WayF.reach (h : WayF nx ef tm s0 x a) : ReachX nx ef s0 x:=by
 induction h with
 | nil => exact .refl
 | snoc _ h1 h2 ih => exact .step ih h1 h2
theorem reach_way (h : ReachX nx ef s0 x) : ∃ a,WayF nx ef tm s0 x a:=by
 induction h with
 | refl => exact ⟨_,.nil⟩
 | step _ h1 h2 ih => obtain ⟨a,ha⟩:=ih; exact ⟨_,.snoc ha h1 h2⟩
theorem WayF.toX (h : WayF nx ef tm s0 x a) : ∀ {t d : Int} {ks : List Nat},WayX nx ef tm x t d ks → WayX nx ef tm s0 (t + a.1) (d + a.2.length) (a.2 ++ ks):=by
 induction h with
 | nil => intro t d ks hw; simpa using hw
 | @snoc x y k a _ h1 h2 ih =>
  intro t d ks hw
  have:=ih (.go h1 h2 hw)
  have e1 : t + tm k + a.1 = t + (extP tm a k).1:=by unfold extP; simp only; omega
  have e2 : d + 1 + (a.2.length : Int) = d + ((extP tm a k).2.length : Int):=by unfold extP; simp only [List.length_append,List.length_cons,List.length_nil]; omega
  have e3 : a.2 ++ k :: ks = (extP tm a k).2 ++ ks:=by unfold extP; simp
  rw [e1,e2,e3] at this
  exact this
theorem WayX.toF : ∀ {x : StE} {t d : Int} {ks : List Nat},WayX nx ef tm x t d ks → ∀ {a : PwE},WayF nx ef tm s0 x a → ∃ y,ef y = true ∧ WayF nx ef tm s0 y (a.1 + t,a.2 ++ ks):=by
 intro x t d ks h
 induction h with
 | @stop x h => intro a ha; exact ⟨x,h,by simpa using ha⟩
 | @go x y k t d ks h1 h2 _ ih =>
  intro a ha
  obtain ⟨z,hz,hw⟩:=ih (.snoc ha h1 h2)
  refine ⟨z,hz,?_⟩
  have e : ((extP tm a k).1 + t,(extP tm a k).2 ++ ks) = (a.1 + (t + tm k),a.2 ++ k :: ks):=by
   unfold extP
   exact Prod.ext (by simp only; omega) (by simp)
  rw [e] at hw
  exact hw
def BestF (nx : StE → List (Nat × StE)) (ef : StE → Bool) (tm : Nat → Int) (s0 x : StE) (a : PwE) : Prop:=WayF nx ef tm s0 x a ∧ ∀ b,WayF nx ef tm s0 x b → leP a b
theorem BestF.uniq (h : BestF nx ef tm s0 x a) (h' : BestF nx ef tm s0 x b) : a = b:=leP_anti (h.2 _ h'.1) (h'.2 _ h.1)
end
theorem exists_lexmin : ∀ (d : Nat) (P : List Nat → Prop),(∃ l,P l ∧ l.length = d) → ∃ l,P l ∧ l.length = d ∧ ∀ l',P l' → l'.length = d → ¬ ltL l' l
 | 0,P,⟨l,h,hl⟩ => ⟨l,h,hl,fun l' _ h' => by
  have e1:=List.eq_nil_of_length_eq_zero hl
  have e2:=List.eq_nil_of_length_eq_zero h'
  subst e1 e2; exact id⟩
 | d + 1,P,⟨l,h,hl⟩ => by
  cases l with
  | nil => simp at hl
  | cons a l =>
   obtain ⟨n,⟨m,hm,hml⟩,hmin⟩:=exists_leastN (P:=fun n => ∃ m,P (n :: m) ∧ m.length = d) ⟨a,l,h,by simpa using hl⟩
   obtain ⟨r,hr,hrl,hrm⟩:=exists_lexmin d (fun m => P (n :: m)) ⟨m,hm,hml⟩
   refine ⟨n :: r,hr,by simp [hrl],fun l' hp hl' => ?_⟩
   cases l' with
   | nil => simp at hl'
   | cons b l' =>
    have hb:=hmin b ⟨l',hp,by simpa using hl'⟩
    rintro (g | ⟨g,g2⟩)
    ·omega
    ·subst g; exact hrm l' hp (by simpa using hl') g2
theorem exists_best {P : PwE → Prop} (h0 : ∀ a,P a → 0 ≤ a.1) (h : ∃ a,P a) : ∃ a,P a ∧ ∀ b,P b → leP a b:=by
 obtain ⟨a,ha⟩:=h
 obtain ⟨t,⟨ks,ht⟩,htm⟩:=exists_leastN (P:=fun t => ∃ ks,P ((t : Int),ks)) ⟨a.1.toNat,a.2,by rw [Int.toNat_of_nonneg (h0 _ ha)]; exact ha⟩
 obtain ⟨d,⟨ks2,hd,hdl⟩,hdm⟩:=exists_leastN (P:=fun d => ∃ ks,P ((t : Int),ks) ∧ ks.length = d) ⟨ks.length,ks,ht,rfl⟩
 obtain ⟨r,hr,hrl,hrm⟩:=exists_lexmin d (fun ks => P ((t : Int),ks)) ⟨ks2,hd,hdl⟩
 refine ⟨((t : Int),r),hr,fun b hb g => ?_⟩
 have hb0:=h0 _ hb
 have hbt:=htm b.1.toNat ⟨b.2,by rw [Int.toNat_of_nonneg hb0]; exact hb⟩
 unfold ltP at g
 simp only at g
 rcases g with g | ⟨g,g2⟩
 ·omega
 ·have hb' : P ((t : Int),b.2):=by rw [← g]; exact hb
  have:=hdm b.2.length ⟨b.2,hb',rfl⟩
  rcases g2 with g2 | ⟨g2,g3⟩
  ·omega
  ·exact hrm _ hb' (by omega) g3
section
variable {nx : StE → List (Nat × StE)} {ef : StE → Bool} {tm : Nat → Int} {s0 x y : StE} {a b : PwE}
theorem BestF.exists (ht : ∀ x p,p ∈ nx x → 1 ≤ tm p.1) (h : ReachX nx ef s0 x) : ∃ a,BestF nx ef tm s0 x a :=
 exists_best (P:=WayF nx ef tm s0 x) (fun a ha => by have:=ha.bnd ht; omega) (reach_way h)
theorem BestF.pre {k : Nat} (h : BestF nx ef tm s0 y (extP tm a k)) (hw : WayF nx ef tm s0 x a) (hf : ef x = false) (hm : (k,y) ∈ nx x) : BestF nx ef tm s0 x a :=
 ⟨hw,fun b hb g => h.2 _ (.snoc hb hf hm) ((extP_lt tm b a k).2 g)⟩
abbrev FoundM := StE → Option PwE
structure SpW (nx : StE → List (Nat × StE)) (ef : StE → Bool) (tm : Nat → Int) (s0 : StE) (M : FoundM) : Prop where
  way : ∀ x a, M x = some a → WayF nx ef tm s0 x a
  first : ∃ a, M s0 = some a ∧ leP a (0, [])
def leM (M' M : FoundM) : Prop:=∀ x a,M x = some a → ∃ b,M' x = some b ∧ leP b a
theorem leM_refl (M : FoundM) : leM M M:=fun x a h => ⟨a,h,leP_refl a⟩
theorem leM_trans {A B C : FoundM} (h1 : leM A B) (h2 : leM B C) : leM A C:=fun x a h => by
 obtain ⟨b,hb,l1⟩:=h2 x a h
 obtain ⟨c,hc,l2⟩:=h1 x b hb
 exact ⟨c,hc,leP_trans l2 l1⟩
def putM (M : FoundM) (y : StE) (a : PwE) : FoundM:=fun z => if z = y then some a else M z
theorem putM_le {M : FoundM} {y : StE} {a : PwE} (h : ∀ b,M y = some b → leP a b) : leM (putM M y a) M:=fun x b hb => by
 unfold putM
 by_cases e : x = y
 ·rw [if_pos e]; subst e; exact ⟨a,rfl,h b hb⟩
 ·rw [if_neg e]; exact ⟨b,hb,leP_refl b⟩
theorem SpW.put {M : FoundM} (h : SpW nx ef tm s0 M) (hw : WayF nx ef tm s0 y a) (hb : ∀ b,M y = some b → ltP a b) : SpW nx ef tm s0 (putM M y a):=by
 refine ⟨fun x b hx => ?_,?_⟩
 ·unfold putM at hx
  by_cases e : x = y
  ·rw [if_pos e] at hx; injection hx with hx; subst hx; rw [e]; exact hw
  ·rw [if_neg e] at hx; exact h.way x b hx
 ·obtain ⟨b,h1,h2⟩:=h.first
  obtain ⟨c,h3,h4⟩:=putM_le (M:=M) (y:=y) (a:=a) (fun b hb' => leP_of_lt (hb b hb')) s0 b h1
  exact ⟨c,h3,leP_trans h4 h2⟩
theorem SpW.best {M : FoundM} (h : SpW nx ef tm s0 M) (hc : ∀ x a,M x = some a → ef x = false → ∀ k y,(k,y) ∈ nx x → ∃ b,M y = some b ∧ leP b (extP tm a k)) : (∀ x a,M x = some a → BestF nx ef tm s0 x a) ∧ ∀ x,ReachX nx ef s0 x → ∃ a,M x = some a:=by
 have key : ∀ x a,WayF nx ef tm s0 x a → ∃ b,M x = some b ∧ leP b a:=by
  intro x a hw
  induction hw with
  | nil => exact h.first
  | @snoc x y k a _ hf hm ih =>
   obtain ⟨b,hb,hl⟩:=ih
   obtain ⟨c,hc1,hc2⟩:=hc x b hb hf k y hm
   exact ⟨c,hc1,leP_trans hc2 (extP_le hl k)⟩
 refine ⟨fun x a hx => ⟨h.way x a hx,fun b hb => ?_⟩,fun x hx => ?_⟩
 ·obtain ⟨c,hc1,hc2⟩:=key x b hb
  rw [hx] at hc1
  injection hc1 with hc1
  subst hc1; exact hc2
 ·obtain ⟨a,ha⟩:=reach_way (tm:=tm) hx
  obtain ⟨b,hb,_⟩:=key x a ha
  exact ⟨b,hb⟩
def RdI (nx : StE → List (Nat × StE)) (ef : StE → Bool) (tm : Nat → Int) (s0 : StE) (M : FoundM) (r : Nat) : Prop:=∀ x a,BestF nx ef tm s0 x a → a.2.length ≤ r → M x = some a
theorem RdI.zero {M : FoundM} (h : SpW nx ef tm s0 M) : RdI nx ef tm s0 M 0:=fun x a hb hl => by
 have e : a.2 = []:=List.eq_nil_of_length_eq_zero (by omega)
 obtain ⟨hw,hm⟩:=hb
 cases hw with
 | nil =>
  obtain ⟨b,h1,h2⟩:=h.first
  rw [h1,leP_anti h2 (hm _ (h.way _ _ h1))]
 | @snoc x y k a _ _ _ => exact absurd e (by unfold extP; simp)
theorem RdI.next {M M' : FoundM} {r : Nat} (h : RdI nx ef tm s0 M r) (hs' : SpW nx ef tm s0 M') (hle : leM M' M) (hc : ∀ x a,M x = some a → ef x = false → ∀ k y,(k,y) ∈ nx x → ∃ b,M' y = some b ∧ leP b (extP tm a k)) : RdI nx ef tm s0 M' (r + 1):=fun x a hb hl => by
 have put : ∀ b,M' x = some b → leP b a → M' x = some a:=fun b h1 h2 => by rw [h1,leP_anti h2 (hb.2 _ (hs'.way _ _ h1))]
 obtain ⟨hw,hm⟩:=hb
 cases hw with
 | nil =>
  obtain ⟨b,h1,h2⟩:=hs'.first
  exact put b h1 h2
 | @snoc z y k c hz hf hmz =>
  have hcl : c.2.length ≤ r:=by unfold extP at hl; simp only [List.length_append,List.length_cons,List.length_nil] at hl; omega
  have hbz : BestF nx ef tm s0 z c:=BestF.pre ⟨.snoc hz hf hmz,hm⟩ hz hf hmz
  obtain ⟨b,h1,h2⟩:=hc z c (h z c hbz hcl) hf k x hmz
  exact put b h1 h2
theorem RdI.still {M : FoundM} {r : Nat} (h : RdI nx ef tm s0 M r) (ht : ∀ x p,p ∈ nx x → 1 ≤ tm p.1) (hN : ∀ x a,BestF nx ef tm s0 x a → a.2.length ≤ r) (hw : WayF nx ef tm s0 y b) : ∃ a,M y = some a ∧ leP a b:=by
 obtain ⟨a,ha⟩:=BestF.exists ht hw.reach
 exact ⟨a,h y a ha (hN y a ha),ha.2 b hw⟩
theorem best_bound {sts : List StE} (hs : ∀ x,ReachX nx ef s0 x → x ∈ sts) : ∃ N,∀ x a,BestF nx ef tm s0 x a → a.2.length ≤ N:=by
 have key : ∀ l : List StE,∃ N,∀ x ∈ l,∀ a,BestF nx ef tm s0 x a → a.2.length ≤ N:=by
  intro l
  induction l with
  | nil => exact ⟨0,fun x hx => by cases hx⟩
  | cons y l ih =>
   obtain ⟨N,hN⟩:=ih
   by_cases c : ∃ a,BestF nx ef tm s0 y a
   ·obtain ⟨a,ha⟩:=c
    refine ⟨max N a.2.length,fun x hx b hb => ?_⟩
    rcases List.mem_cons.1 hx with rfl | hx
    ·rw [hb.uniq ha]; exact Nat.le_max_right _ _
    ·exact Nat.le_trans (hN x hx b hb) (Nat.le_max_left _ _)
   ·refine ⟨N,fun x hx b hb => ?_⟩
    rcases List.mem_cons.1 hx with rfl | hx
    ·exact absurd ⟨b,hb⟩ c
    ·exact hN x hx b hb
 obtain ⟨N,hN⟩:=key sts
 exact ⟨N,fun x a ha => hN x (hs x ha.1.reach) a ha⟩
end
end Go.Proofs.YtjggbpchmbdocaaGreatDoor
/- One round of spreadOut, plain; the names of stands; what is found in memory. -/
namespace Go.Proofs.YtjggbpchmbdocaaGreatDoor
open Go.RowKit

structure RndI (nx : StE → List (Nat × StE)) (ef : StE → Bool) (tm : Nat → Int) (s0 : StE) (M0 M : FoundM) (dn : StE → Prop) : Prop where
  sp : SpW nx ef tm s0 M
  le : leM M M0
  cl : ∀ x a, dn x → M0 x = some a → ef x = false → ∀ k y, (k, y) ∈ nx x → ∃ b, M y = some b ∧ leP b (extP tm a k)
structure DrI (nx : StE → List (Nat × StE)) (ef : StE → Bool) (tm : Nat → Int) (s0 : StE) (M0 M : FoundM) (dn : StE → Prop) (x : StE) (a : PwE) (j : Nat) : Prop where
  rd : RndI nx ef tm s0 M0 M dn
  way : WayF nx ef tm s0 x a
  fr : ∀ b, M0 x = some b → leP a b
  dr : ∀ k y, k < j → (k, y) ∈ nx x → ∃ b, M y = some b ∧ leP b (extP tm a k)
section
variable {nx : StE → List (Nat × StE)} {ef : StE → Bool} {tm : Nat → Int} {s0 x y : StE} {a b : PwE} {M0 M M' : FoundM} {dn dn' : StE → Prop} {j : Nat}
theorem RndI.start (h : SpW nx ef tm s0 M) : RndI nx ef tm s0 M M (fun _ => False):=⟨h,leM_refl M,fun _ _ h => h.elim⟩
theorem cl_mono (h : leM M' M) {k : Nat} (hc : ∃ b,M y = some b ∧ leP b (extP tm a k)) : ∃ b,M' y = some b ∧ leP b (extP tm a k):=by
 obtain ⟨b,h1,h2⟩:=hc
 obtain ⟨c,h3,h4⟩:=h y b h1
 exact ⟨c,h3,leP_trans h4 h2⟩
theorem RndI.put (h : RndI nx ef tm s0 M0 M dn) (hw : WayF nx ef tm s0 y a) (hb : ∀ b,M y = some b → ltP a b) : RndI nx ef tm s0 M0 (putM M y a) dn:=by
 have hl : leM (putM M y a) M:=putM_le fun b hb' => leP_of_lt (hb b hb')
 exact ⟨h.sp.put hw hb,leM_trans hl h.le,fun x c hx h0 hf k z hm => cl_mono hl (h.cl x c hx h0 hf k z hm)⟩
theorem RndI.begin (h : RndI nx ef tm s0 M0 M dn) (hx : M x = some a) (h0 : ∃ b,M0 x = some b) : DrI nx ef tm s0 M0 M dn x a 0:=by
 refine ⟨h,h.sp.way x a hx,fun b hb => ?_,fun k y hk => absurd hk (Nat.not_lt_zero k)⟩
 obtain ⟨c,h1,h2⟩:=h.le x b hb
 rw [hx] at h1
 injection h1 with h1
 rw [h1]; exact h2
theorem DrI.skip (h : DrI nx ef tm s0 M0 M dn x a j) (hn : ∀ y,(j,y) ∉ nx x) : DrI nx ef tm s0 M0 M dn x a (j + 1) :=
 ⟨h.rd,h.way,h.fr,fun k z hk hm => by
  by_cases e : k = j
  ·subst e; exact absurd hm (hn z)
  ·exact h.dr k z (by omega) hm⟩
theorem DrI.keep (h : DrI nx ef tm s0 M0 M dn x a j) (hu : ∀ z,(j,z) ∈ nx x → z = y) (hy : M y = some b) (hl : leP b (extP tm a j)) : DrI nx ef tm s0 M0 M dn x a (j + 1) :=
 ⟨h.rd,h.way,h.fr,fun k z hk hm => by
  by_cases e : k = j
  ·subst e; rw [hu z hm]; exact ⟨b,hy,hl⟩
  ·exact h.dr k z (by omega) hm⟩
theorem DrI.put (h : DrI nx ef tm s0 M0 M dn x a j) (hf : ef x = false) (hm : (j,y) ∈ nx x) (hu : ∀ z,(j,z) ∈ nx x → z = y) (hb : ∀ b,M y = some b → ltP (extP tm a j) b) : DrI nx ef tm s0 M0 (putM M y (extP tm a j)) dn x a (j + 1):=by
 have hl : leM (putM M y (extP tm a j)) M:=putM_le fun b hb' => leP_of_lt (hb b hb')
 refine ⟨h.rd.put (.snoc h.way hf hm) hb,h.way,h.fr,fun k z hk hz => ?_⟩
 by_cases e : k = j
 ·subst e
  rw [hu z hz]
  exact ⟨_,by unfold putM; rw [if_pos rfl],leP_refl _⟩
 ·exact cl_mono hl (h.dr k z (by omega) hz)
theorem DrI.done (h : DrI nx ef tm s0 M0 M dn x a j) (hj : ∀ k y,(k,y) ∈ nx x → k < j) (hd : ∀ z,dn' z → dn z ∨ z = x) : RndI nx ef tm s0 M0 M dn' :=
 ⟨h.rd.sp,h.rd.le,fun z c hz h0 hf k y hm => by
  rcases hd z hz with hz | rfl
  ·exact h.rd.cl z c hz h0 hf k y hm
  ·obtain ⟨b,h1,h2⟩:=h.dr k y (hj k y hm) hm
   exact ⟨b,h1,leP_trans h2 (extP_le (h.fr c h0) k)⟩⟩
theorem RndI.ends (h : RndI nx ef tm s0 M0 M dn) (hf : ef x = true) (hd : ∀ z,dn' z → dn z ∨ z = x) : RndI nx ef tm s0 M0 M dn' :=
 ⟨h.sp,h.le,fun z c hz h0 hf' k y hm => by
  rcases hd z hz with hz | rfl
  ·exact h.cl z c hz h0 hf' k y hm
  ·rw [hf] at hf'; cases hf'⟩
theorem RndI.next {r : Nat} (h : RndI nx ef tm s0 M0 M dn) (hd : ∀ z,(M0 z).isSome = true → dn z) (hr : RdI nx ef tm s0 M0 r) : RdI nx ef tm s0 M (r + 1) :=
 hr.next h.sp h.le fun x a hx hf k y hm => h.cl x a (hd x (by rw [hx]; rfl)) hx hf k y hm
theorem RndI.best (h : RndI nx ef tm s0 M0 M0 dn) (hd : ∀ z,(M0 z).isSome = true → dn z) : (∀ x a,M0 x = some a → BestF nx ef tm s0 x a) ∧ ∀ x,ReachX nx ef s0 x → ∃ a,M0 x = some a :=
 h.sp.best fun x a hx hf k y hm => h.cl x a (hd x (by rw [hx]; rfl)) hx hf k y hm
theorem DrI.still {r : Nat} (h : DrI nx ef tm s0 M0 M dn x a j) (ht : ∀ x p,p ∈ nx x → 1 ≤ tm p.1) (hr : RdI nx ef tm s0 M0 r) (hN : ∀ x a,BestF nx ef tm s0 x a → a.2.length ≤ r) (hf : ef x = false) (hm : (j,y) ∈ nx x) : ∃ b,M y = some b ∧ leP b (extP tm a j):=by
 obtain ⟨c,h1,h2⟩:=hr.still ht hN (.snoc h.way hf hm)
 obtain ⟨b,h3,h4⟩:=h.rd.le y c h1
 exact ⟨b,h3,leP_trans h4 h2⟩
end
def nameS (room : List UInt8) (th : List (List UInt8)) (k : Nat) : List UInt8:=room ++ [32] ++ Lib.join th [44] ++ [32] ++ [UInt8.ofNat (48 + k)]
def nameX (rs : List RoomE) (T : List (List UInt8)) (x : StE) : List UInt8:=nameS (ptX rs T x).1 (ptX rs T x).2 x.s
theorem digit_inj : ∀ k < 9,∀ m < 9,UInt8.ofNat (48 + k) = UInt8.ofNat (48 + m) → k = m:=by decide +kernel
structure NmOk (rs : List RoomE) (T : List (List UInt8)) : Prop where
  inj : ∀ x y, GoodX rs T x → GoodX rs T y → nameX rs T x = nameX rs T y → x = y
  len : ∀ x, GoodX rs T x → (nameX rs T x).length ≤ 1000
theorem ptX_good {rs : List RoomE} {T : List (List UInt8)} {x : StE} (hT : T.Pairwise (· < ·)) (h : GoodX rs T x) : ∃ room th,room ∈ rs.map RoomE.key ∧ ThOk T th ∧ x = ⟨ixR rs room,bitsT T th,x.s⟩ ∧ ptX rs T x = (room,th) ∧ x.s ≤ 5:=by
 obtain ⟨⟨room,hr,e1⟩,⟨th,ht,e2⟩,h3⟩:=h
 refine ⟨room,th,hr,ht,?_,?_,h3⟩
 ·cases x
  simp only at e1 e2
  subst e1 e2
  rfl
 ·rw [← ptX_st (rs:=rs) hr hT ht]
  unfold ptX stX
  rw [e1,e2]
structure FndOk (W : World) (lo : Nat) (ds : List DoorE) (pt : List UInt8 × List (List UInt8)) (s : Nat) (a : PwE) (p : FndC) : Prop where
  room : p.room = pt.1
  tn : p.tn = pt.2.length
  tc : pt.2.length ≤ p.tc
  things : Row W lo 1 p.ta pt.2.length (strs pt.2)
  done : p.done = (s : Int)
  dn : p.dn = a.2.length
  doors : Row W lo 1 p.da a.2.length (strs (a.2.map (keyX ds)))
  time : p.time = a.1
theorem FndOk.below {W W' : World} {lo : Nat} {ds : List DoorE} {pt : List UInt8 × List (List UInt8)} {s : Nat} {a : PwE} {p : FndC} (h : FndOk W lo ds pt s a p) (hb : Below W.heap.size W W') : FndOk W' lo ds pt s a p :=
 { h with things:=h.things.below hb,doors:=h.doors.below hb }
structure FndI (W : World) (lo : Nat) (rs : List RoomE) (ds : List DoorE) (T : List (List UInt8)) (f : List UInt8 → Option FndC) (M : FoundM) : Prop where
  good : ∀ x a, M x = some a → GoodX rs T x
  there : ∀ x a, M x = some a → ∃ p, f (nameX rs T x) = some p ∧ FndOk W lo ds (ptX rs T x) x.s a p
  only : ∀ key, (f key).isSome = true → ∃ x a, M x = some a ∧ key = nameX rs T x
section
variable {W W' : World} {lo : Nat} {rs : List RoomE} {ds : List DoorE} {T : List (List UInt8)} {f : List UInt8 → Option FndC} {M : FoundM} {x y : StE} {a : PwE} {p : FndC}
theorem FndI.below (h : FndI W lo rs ds T f M) (hb : Below W.heap.size W W') : FndI W' lo rs ds T f M :=
 ⟨h.good,fun x a hx => let ⟨p,h1,h2⟩:=h.there x a hx; ⟨p,h1,h2.below hb⟩,h.only⟩
theorem FndI.look (h : FndI W lo rs ds T f M) (hn : NmOk rs T) (hy : GoodX rs T y) (ha : M y = none) : f (nameX rs T y) = none:=by
 cases e : f (nameX rs T y) with
 | none => rfl
 | some p =>
  obtain ⟨x,b,h1,h2⟩:=h.only (nameX rs T y) (by rw [e]; rfl)
  rw [hn.inj y x hy (h.good x b h1) h2,h1] at ha
  cases ha
theorem FndI.put (h : FndI W lo rs ds T f M) (hn : NmOk rs T) (hy : GoodX rs T y) (hp : FndOk W lo ds (ptX rs T y) y.s a p) : FndI W lo rs ds T (fun z => if z = nameX rs T y then some p else f z) (putM M y a):=by
 have hcase : ∀ x b,putM M y a x = some b → (x = y ∧ b = a) ∨ (x ≠ y ∧ M x = some b):=by
  intro x b hx
  unfold putM at hx
  by_cases e : x = y
  ·rw [if_pos e] at hx; injection hx with hx; exact .inl ⟨e,hx.symm⟩
  ·rw [if_neg e] at hx; exact .inr ⟨e,hx⟩
 refine ⟨fun x b hx => ?_,fun x b hx => ?_,fun key hk => ?_⟩
 ·rcases hcase x b hx with ⟨rfl,_⟩ | ⟨_,hx⟩
  ·exact hy
  ·exact h.good x b hx
 ·rcases hcase x b hx with ⟨rfl,rfl⟩ | ⟨e,hx⟩
  ·exact ⟨p,if_pos rfl,hp⟩
  ·obtain ⟨q,h1,h2⟩:=h.there x b hx
   exact ⟨q,by rw [if_neg (fun e' => e (hn.inj x y (h.good x b hx) hy e'))]; exact h1,h2⟩
 ·by_cases e : key = nameX rs T y
  ·exact ⟨y,a,by unfold putM; rw [if_pos rfl],e⟩
  ·rw [if_neg e] at hk
   obtain ⟨x,b,h1,h2⟩:=h.only key hk
   refine ⟨x,b,?_,h2⟩
   unfold putM
   rw [if_neg (by rintro rfl; exact e h2)]; exact h1
end
end Go.Proofs.YtjggbpchmbdocaaGreatDoor
