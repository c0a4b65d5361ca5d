/- Texts of this seat, laid together: SpA TwP SpB. -/
import Derived.Lib.Join
import Derived.Test.YtjggbpchmbdocaaGreatDoorBt39
import Derived.Test.YtjggbpchmbdocaaGreatDoorBt40
import Derived.Test.YtjggbpchmbdocaaGreatDoorBt38
import Derived.Test.YtjggbpchmbdocaaGreatDoorBt10
/- The plain theory of spreadOut: the best ways from a beginning to all stands, found by trying all doors until nothing gets better. -/
set_option linter.unusedVariables false
set_option linter.unusedSimpArgs false
namespace Go.Proofs.YtjggbpchmbdocaaGreatDoor
open Go.RowKit

def ltL : List Nat → List Nat → Prop
 | [],[] => False
 | [],_ :: _ => True
 | _ :: _,[] => False
 | a :: x,b :: y => a < b ∨ a = b ∧ ltL x y
theorem ltL_irr : ∀ x, ¬ ltL x x
  | [] => id
  | a :: x => fun h => by rcases h with h | ⟨_, h⟩; · omega
                          · exact ltL_irr x h
theorem ltL_trans : ∀ x y z,ltL x y → ltL y z → ltL x z
 | [],[],_,h,_ => h.elim
 | [],_ :: _,[],_,h => h.elim
 | [],_ :: _,_ :: _,_,_ => trivial
 | _ :: _,[],_,h,_ => h.elim
 | _ :: _,_ :: _,[],_,h => h.elim
 | a :: x,b :: y,c :: z,h1,h2 => by
  rcases h1 with h1 | ⟨e1,h1⟩ <;> rcases h2 with h2 | ⟨e2,h2⟩
  ·exact .inl (by omega)
  ·exact .inl (by omega)
  ·exact .inl (by omega)
  ·exact .inr ⟨by omega,ltL_trans x y z h1 h2⟩
theorem ltL_tot : ∀ x y,ltL x y ∨ x = y ∨ ltL y x
 | [],[] => .inr (.inl rfl)
 | [],_ :: _ => .inl trivial
 | _ :: _,[] => .inr (.inr trivial)
 | a :: x,b :: y => by
  rcases Nat.lt_trichotomy a b with h | h | h
  ·exact .inl (.inl h)
  ·subst h
   rcases ltL_tot x y with h | h | h
   ·exact .inl (.inr ⟨rfl,h⟩)
   ·exact .inr (.inl (by rw [h]))
   ·exact .inr (.inr (.inr ⟨rfl,h⟩))
  ·exact .inr (.inr (.inl h))
theorem ltL_app : ∀ x y : List Nat,x.length = y.length → ∀ k,ltL (x ++ [k]) (y ++ [k]) ↔ ltL x y
 | [],[],_,k => by simp [ltL]
 | [],_ :: _,h,_ => by simp at h
 | _ :: _,[],h,_ => by simp at h
 | a :: x,b :: y,h,k => by
  show a < b ∨ a = b ∧ ltL (x ++ [k]) (y ++ [k]) ↔ a < b ∨ a = b ∧ ltL x y;rw [ltL_app x y (by simpa using h) k]
abbrev PwE := Int × List Nat
def ltP (a b : PwE) : Prop:=a.1 < b.1 ∨ a.1 = b.1 ∧ (a.2.length < b.2.length ∨ a.2.length = b.2.length ∧ ltL a.2 b.2)
theorem ltP_irr (a : PwE) : ¬ ltP a a:=fun h => by
 rcases h with h | ⟨_,h | ⟨_,h⟩⟩
 ·omega
 ·omega
 ·exact ltL_irr _ h
theorem ltP_trans {a b c : PwE} (h1 : ltP a b) (h2 : ltP b c) : ltP a c:=by
 unfold ltP at *
 rcases h1 with h1 | ⟨e1,h1 | ⟨f1,h1⟩⟩ <;> rcases h2 with h2 | ⟨e2,h2 | ⟨f2,h2⟩⟩
 ·exact .inl (by omega)
 ·exact .inl (by omega)
 ·exact .inl (by omega)
 ·exact .inl (by omega)
 ·exact .inr ⟨by omega,.inl (by omega)⟩
 ·exact .inr ⟨by omega,.inl (by omega)⟩
 ·exact .inl (by omega)
 ·exact .inr ⟨by omega,.inl (by omega)⟩
 ·exact .inr ⟨by omega,.inr ⟨by omega,ltL_trans _ _ _ h1 h2⟩⟩
theorem ltP_tot (a b : PwE) : ltP a b ∨ a = b ∨ ltP b a:=by
 unfold ltP;rcases Int.lt_trichotomy a.1 b.1 with h | h | h
 ·exact .inl (.inl h)
 ·rcases Nat.lt_trichotomy a.2.length b.2.length with g | g | g
  ·exact .inl (.inr ⟨h,.inl g⟩)
  ·rcases ltL_tot a.2 b.2 with l | l | l
   ·exact .inl (.inr ⟨h,.inr ⟨g,l⟩⟩)
   ·exact .inr (.inl (Prod.ext h l))
   ·exact .inr (.inr (.inr ⟨h.symm,.inr ⟨g.symm,l⟩⟩))
  ·exact .inr (.inr (.inr ⟨h.symm,.inl g⟩))
 ·exact .inr (.inr (.inl h))
def leP (a b : PwE) : Prop:=¬ ltP b a
theorem leP_refl (a : PwE) : leP a a:=ltP_irr a
theorem leP_trans {a b c : PwE} (h1 : leP a b) (h2 : leP b c) : leP a c:=fun h => by
 rcases ltP_tot a b with g | g | g
 ·exact h2 (ltP_trans h g)
 ·subst g; exact h2 h
 ·exact h1 g
theorem leP_anti {a b : PwE} (h1 : leP a b) (h2 : leP b a) : a = b:=by
 rcases ltP_tot a b with g | g | g
 ·exact absurd g h2
 ·exact g
 ·exact absurd g h1
theorem leP_of_lt {a b : PwE} (h : ltP a b) : leP a b:=fun g => ltP_irr _ (ltP_trans h g)
def extP (tm : Nat → Int) (a : PwE) (k : Nat) : PwE:=(a.1 + tm k,a.2 ++ [k])
theorem extP_lt (tm : Nat → Int) (a b : PwE) (k : Nat) : ltP (extP tm a k) (extP tm b k) ↔ ltP a b:=by
 unfold ltP extP;simp only [List.length_append,List.length_cons,List.length_nil]
 constructor
 ·rintro (h | ⟨h,h2 | ⟨h2,h3⟩⟩)
  ·exact .inl (by omega)
  ·exact .inr ⟨by omega,.inl (by omega)⟩
  ·exact .inr ⟨by omega,.inr ⟨by omega,(ltL_app _ _ (by omega) k).1 h3⟩⟩
 ·rintro (h | ⟨h,h2 | ⟨h2,h3⟩⟩)
  ·exact .inl (by omega)
  ·exact .inr ⟨by omega,.inl (by omega)⟩
  ·exact .inr ⟨by omega,.inr ⟨by omega,(ltL_app _ _ h2 k).2 h3⟩⟩
theorem extP_le {tm : Nat → Int} {a b : PwE} (h : leP a b) (k : Nat) : leP (extP tm a k) (extP tm b k):=fun g => h ((extP_lt tm b a k).1 g)
inductive WayF (nx : StE → List (Nat × StE)) (ef : StE → Bool) (tm : Nat → Int) (s0 : StE) : StE → PwE → Prop
  | nil : WayF nx ef tm s0 s0 (0, [])
  | snoc {x y : StE} {k : Nat} {a : PwE} : WayF nx ef tm s0 x a → ef x = false → (k, y) ∈ nx x → WayF nx ef tm s0 y (extP tm a k)
section
variable {nx : StE → List (Nat × StE)} {ef : StE → Bool} {tm : Nat → Int} {s0 x y : StE} {a b : PwE}
theorem WayF.bnd (ht : ∀ x p,p ∈ nx x → 1 ≤ tm p.1) (h : WayF nx ef tm s0 x a) : (a.2.length : Int) ≤ a.1:=by
 induction h with
 | nil => exact Int.le_refl _
 | @snoc x y k a _ _ hm ih =>
  have:=ht _ _ hm;unfold extP;simp only [List.length_append,List.length_cons,List.length_nil] at *;omega
theorem WayF.reach (h : WayF nx ef tm s0 x a) : ReachX nx ef s0 x:=by
 induction h with
 | nil => exact .refl
 | snoc _ h1 h2 ih => exact .step ih h1 h2
theorem reach_way (h : ReachX nx ef s0 x) : ∃ a,WayF nx ef tm s0 x a:=by
 induction h with
 | refl => exact ⟨_,.nil⟩
 | step _ h1 h2 ih => obtain ⟨a,ha⟩:=ih; exact ⟨_,.snoc ha h1 h2⟩
theorem WayF.toX (h : WayF nx ef tm s0 x a) : ∀ {t d : Int} {ks : List Nat},WayX nx ef tm x t d ks → WayX nx ef tm s0 (t + a.1) (d + a.2.length) (a.2 ++ ks):=by
 induction h with
 | nil => intro t d ks hw; simpa using hw
 | @snoc x y k a _ h1 h2 ih =>
  intro t d ks hw;have:=ih (.go h1 h2 hw)
  have e1 : t + tm k + a.1 = t + (extP tm a k).1:=by unfold extP; simp only; omega
  have e2 : d + 1 + (a.2.length : Int) = d + ((extP tm a k).2.length : Int):=by unfold extP; simp only [List.length_append,List.length_cons,List.length_nil]; omega
  have e3 : a.2 ++ k :: ks = (extP tm a k).2 ++ ks:=by unfold extP; simp
  rw [e1,e2,e3] at this;exact this
theorem WayX.toF : ∀ {x : StE} {t d : Int} {ks : List Nat},WayX nx ef tm x t d ks → ∀ {a : PwE},WayF nx ef tm s0 x a → ∃ y,ef y = true ∧ WayF nx ef tm s0 y (a.1 + t,a.2 ++ ks):=by
 intro x t d ks h
 induction h with
 | @stop x h => intro a ha; exact ⟨x,h,by simpa using ha⟩
 | @go x y k t d ks h1 h2 _ ih =>
  intro a ha;obtain ⟨z,hz,hw⟩:=ih (.snoc ha h1 h2);refine ⟨z,hz,?_⟩
  have e : ((extP tm a k).1 + t,(extP tm a k).2 ++ ks) = (a.1 + (t + tm k),a.2 ++ k :: ks):=by
   unfold extP;exact Prod.ext (by simp only; omega) (by simp)
  rw [e] at hw;exact hw
def BestF (nx : StE → List (Nat × StE)) (ef : StE → Bool) (tm : Nat → Int) (s0 x : StE) (a : PwE) : Prop:=WayF nx ef tm s0 x a ∧ ∀ b,WayF nx ef tm s0 x b → leP a b
theorem BestF.uniq (h : BestF nx ef tm s0 x a) (h' : BestF nx ef tm s0 x b) : a = b:=leP_anti (h.2 _ h'.1) (h'.2 _ h.1)
end
theorem exists_lexmin : ∀ (d : Nat) (P : List Nat → Prop),(∃ l,P l ∧ l.length = d) → ∃ l,P l ∧ l.length = d ∧ ∀ l',P l' → l'.length = d → ¬ ltL l' l
 | 0,P,⟨l,h,hl⟩ => ⟨l,h,hl,fun l' _ h' => by
  have e1:=List.eq_nil_of_length_eq_zero hl;have e2:=List.eq_nil_of_length_eq_zero h'
  subst e1 e2; exact id⟩
 | d + 1,P,⟨l,h,hl⟩ => by
  cases l with
  | nil => simp at hl
  | cons a l =>
   obtain ⟨n,⟨m,hm,hml⟩,hmin⟩:=exists_leastN (P:=fun n => ∃ m,P (n :: m) ∧ m.length = d) ⟨a,l,h,by simpa using hl⟩;obtain ⟨r,hr,hrl,hrm⟩:=exists_lexmin d (fun m => P (n :: m)) ⟨m,hm,hml⟩;refine ⟨n :: r,hr,by simp [hrl],fun l' hp hl' => ?_⟩
   cases l' with
   | nil => simp at hl'
   | cons b l' =>
    have hb:=hmin b ⟨l',hp,by simpa using hl'⟩;rintro (g | ⟨g,g2⟩)
    ·omega
    ·subst g; exact hrm l' hp (by simpa using hl') g2
theorem exists_best {P : PwE → Prop} (h0 : ∀ a,P a → 0 ≤ a.1) (h : ∃ a,P a) : ∃ a,P a ∧ ∀ b,P b → leP a b:=by
 obtain ⟨a,ha⟩:=h;obtain ⟨t,⟨ks,ht⟩,htm⟩:=exists_leastN (P:=fun t => ∃ ks,P ((t : Int),ks)) ⟨a.1.toNat,a.2,by rw [Int.toNat_of_nonneg (h0 _ ha)]; exact ha⟩;obtain ⟨d,⟨ks2,hd,hdl⟩,hdm⟩:=exists_leastN (P:=fun d => ∃ ks,P ((t : Int),ks) ∧ ks.length = d) ⟨ks.length,ks,ht,rfl⟩;obtain ⟨r,hr,hrl,hrm⟩:=exists_lexmin d (fun ks => P ((t : Int),ks)) ⟨ks2,hd,hdl⟩;refine ⟨((t : Int),r),hr,fun b hb g => ?_⟩;have hb0:=h0 _ hb;have hbt:=htm b.1.toNat ⟨b.2,by rw [Int.toNat_of_nonneg hb0]; exact hb⟩;unfold ltP at g;simp only at g;rcases g with g | ⟨g,g2⟩
 ·omega
 ·have hb' : P ((t : Int),b.2):=by rw [← g]; exact hb
  have:=hdm b.2.length ⟨b.2,hb',rfl⟩;rcases g2 with g2 | ⟨g2,g3⟩
  ·omega
  ·exact hrm _ hb' (by omega) g3
section
variable {nx : StE → List (Nat × StE)} {ef : StE → Bool} {tm : Nat → Int} {s0 x y : StE} {a b : PwE}
theorem BestF.exists (ht : ∀ x p,p ∈ nx x → 1 ≤ tm p.1) (h : ReachX nx ef s0 x) : ∃ a,BestF nx ef tm s0 x a :=
 exists_best (P:=WayF nx ef tm s0 x) (fun a ha => by have:=ha.bnd ht; omega) (reach_way h)
theorem BestF.pre {k : Nat} (h : BestF nx ef tm s0 y (extP tm a k)) (hw : WayF nx ef tm s0 x a) (hf : ef x = false) (hm : (k,y) ∈ nx x) : BestF nx ef tm s0 x a :=
 ⟨hw,fun b hb g => h.2 _ (.snoc hb hf hm) ((extP_lt tm b a k).2 g)⟩
abbrev FoundM := StE → Option PwE
structure SpW (nx : StE → List (Nat × StE)) (ef : StE → Bool) (tm : Nat → Int) (s0 : StE) (M : FoundM) : Prop where
  way : ∀ x a, M x = some a → WayF nx ef tm s0 x a
  first : ∃ a, M s0 = some a ∧ leP a (0, [])
def leM (M' M : FoundM) : Prop:=∀ x a,M x = some a → ∃ b,M' x = some b ∧ leP b a
theorem leM_refl (M : FoundM) : leM M M:=fun x a h => ⟨a,h,leP_refl a⟩
theorem leM_trans {A B C : FoundM} (h1 : leM A B) (h2 : leM B C) : leM A C:=fun x a h => by
 obtain ⟨b,hb,l1⟩:=h2 x a h;obtain ⟨c,hc,l2⟩:=h1 x b hb;exact ⟨c,hc,leP_trans l2 l1⟩
def putM (M : FoundM) (y : StE) (a : PwE) : FoundM:=fun z => if z = y then some a else M z
theorem putM_le {M : FoundM} {y : StE} {a : PwE} (h : ∀ b,M y = some b → leP a b) : leM (putM M y a) M:=fun x b hb => by
 unfold putM
 by_cases e : x = y
 ·rw [if_pos e]; subst e; exact ⟨a,rfl,h b hb⟩
 ·rw [if_neg e]; exact ⟨b,hb,leP_refl b⟩
theorem SpW.put {M : FoundM} (h : SpW nx ef tm s0 M) (hw : WayF nx ef tm s0 y a) (hb : ∀ b,M y = some b → ltP a b) : SpW nx ef tm s0 (putM M y a):=by
 refine ⟨fun x b hx => ?_,?_⟩
 ·unfold putM at hx
  by_cases e : x = y
  ·rw [if_pos e] at hx; injection hx with hx; subst hx; rw [e]; exact hw
  ·rw [if_neg e] at hx; exact h.way x b hx
 ·obtain ⟨b,h1,h2⟩:=h.first
  obtain ⟨c,h3,h4⟩:=putM_le (M:=M) (y:=y) (a:=a) (fun b hb' => leP_of_lt (hb b hb')) s0 b h1;exact ⟨c,h3,leP_trans h4 h2⟩
theorem SpW.best {M : FoundM} (h : SpW nx ef tm s0 M) (hc : ∀ x a,M x = some a → ef x = false → ∀ k y,(k,y) ∈ nx x → ∃ b,M y = some b ∧ leP b (extP tm a k)) : (∀ x a,M x = some a → BestF nx ef tm s0 x a) ∧ ∀ x,ReachX nx ef s0 x → ∃ a,M x = some a:=by
 have key : ∀ x a,WayF nx ef tm s0 x a → ∃ b,M x = some b ∧ leP b a:=by
  intro x a hw
  induction hw with
  | nil => exact h.first
  | @snoc x y k a _ hf hm ih =>
   obtain ⟨b,hb,hl⟩:=ih;obtain ⟨c,hc1,hc2⟩:=hc x b hb hf k y hm;exact ⟨c,hc1,leP_trans hc2 (extP_le hl k)⟩
 refine ⟨fun x a hx => ⟨h.way x a hx,fun b hb => ?_⟩,fun x hx => ?_⟩
 ·obtain ⟨c,hc1,hc2⟩:=key x b hb
  rw [hx] at hc1;injection hc1 with hc1;subst hc1; exact hc2
 ·obtain ⟨a,ha⟩:=reach_way (tm:=tm) hx
  obtain ⟨b,hb,_⟩:=key x a ha;exact ⟨b,hb⟩
def RdI (nx : StE → List (Nat × StE)) (ef : StE → Bool) (tm : Nat → Int) (s0 : StE) (M : FoundM) (r : Nat) : Prop:=∀ x a,BestF nx ef tm s0 x a → a.2.length ≤ r → M x = some a
theorem RdI.zero {M : FoundM} (h : SpW nx ef tm s0 M) : RdI nx ef tm s0 M 0:=fun x a hb hl => by
 have e : a.2 = []:=List.eq_nil_of_length_eq_zero (by omega);obtain ⟨hw,hm⟩:=hb
 cases hw with
 | nil =>
  obtain ⟨b,h1,h2⟩:=h.first
  rw [h1,leP_anti h2 (hm _ (h.way _ _ h1))]
 | @snoc x y k a _ _ _ => exact absurd e (by unfold extP; simp)
theorem RdI.next {M M' : FoundM} {r : Nat} (h : RdI nx ef tm s0 M r) (hs' : SpW nx ef tm s0 M') (hle : leM M' M) (hc : ∀ x a,M x = some a → ef x = false → ∀ k y,(k,y) ∈ nx x → ∃ b,M' y = some b ∧ leP b (extP tm a k)) : RdI nx ef tm s0 M' (r + 1):=fun x a hb hl => by
 have put : ∀ b,M' x = some b → leP b a → M' x = some a:=fun b h1 h2 => by rw [h1,leP_anti h2 (hb.2 _ (hs'.way _ _ h1))]
 obtain ⟨hw,hm⟩:=hb
 cases hw with
 | nil =>
  obtain ⟨b,h1,h2⟩:=hs'.first
  exact put b h1 h2
 | @snoc z y k c hz hf hmz =>
  have hcl : c.2.length ≤ r:=by unfold extP at hl; simp only [List.length_append,List.length_cons,List.length_nil] at hl; omega
  have hbz : BestF nx ef tm s0 z c:=BestF.pre ⟨.snoc hz hf hmz,hm⟩ hz hf hmz;obtain ⟨b,h1,h2⟩:=hc z c (h z c hbz hcl) hf k x hmz;exact put b h1 h2
theorem RdI.still {M : FoundM} {r : Nat} (h : RdI nx ef tm s0 M r) (ht : ∀ x p,p ∈ nx x → 1 ≤ tm p.1) (hN : ∀ x a,BestF nx ef tm s0 x a → a.2.length ≤ r) (hw : WayF nx ef tm s0 y b) : ∃ a,M y = some a ∧ leP a b:=by
 obtain ⟨a,ha⟩:=BestF.exists ht hw.reach;exact ⟨a,h y a ha (hN y a ha),ha.2 b hw⟩
theorem best_bound {sts : List StE} (hs : ∀ x,ReachX nx ef s0 x → x ∈ sts) : ∃ N,∀ x a,BestF nx ef tm s0 x a → a.2.length ≤ N:=by
 have key : ∀ l : List StE,∃ N,∀ x ∈ l,∀ a,BestF nx ef tm s0 x a → a.2.length ≤ N:=by
  intro l
  induction l with
  | nil => exact ⟨0,fun x hx => by cases hx⟩
  | cons y l ih =>
   obtain ⟨N,hN⟩:=ih
   by_cases c : ∃ a,BestF nx ef tm s0 y a
   ·obtain ⟨a,ha⟩:=c
    refine ⟨max N a.2.length,fun x hx b hb => ?_⟩;rcases List.mem_cons.1 hx with rfl | hx
    ·rw [hb.uniq ha]; exact Nat.le_max_right _ _
    ·exact Nat.le_trans (hN x hx b hb) (Nat.le_max_left _ _)
   ·refine ⟨N,fun x hx b hb => ?_⟩
    rcases List.mem_cons.1 hx with rfl | hx
    ·exact absurd ⟨b,hb⟩ c
    ·exact hN x hx b hb
 obtain ⟨N,hN⟩:=key sts;exact ⟨N,fun x a ha => hN x (hs x ha.1.reach) a ha⟩
end
end Go.Proofs.YtjggbpchmbdocaaGreatDoor
/- A map without a door, the fewest tricks among all sets, plain. -/
namespace Go.Proofs.YtjggbpchmbdocaaGreatDoor
open Go.RowKit

def shutL (ds : List DoorE) (k : List UInt8) : List DoorE:=ds.filter fun d => !(d.key == k)
theorem shut_mem {ds : List DoorE} {k : List UInt8} {d : DoorE} : d ∈ shutL ds k ↔ d ∈ ds ∧ d.key ≠ k:=by
 unfold shutL;rw [List.mem_filter]
 simp
theorem doorAt_one {rs : List RoomE} {ds : List DoorE} {i : Nat} (hi : i < ds.length) : doorAt rs ds i = 0 ↔ doorAt rs [ds[i]] 0 = 0 ∧ (0 < i → (ds.getD (i - 1) default).key < ds[i].key):=by
 unfold doorAt;rw [getD_door hi,show ([ds[i]].getD 0 default) = ds[i] from rfl];generalize (if (!hasR rs ds[i].src || !hasR rs ds[i].dst) = true then (8 : Int) else if ds[i].time < 1 ∨ 864000000 < ds[i].time then 1 else if firstE [thingsE ds[i].needs,thingsE ds[i].takes] ≠ 0 then firstE [thingsE ds[i].needs,thingsE ds[i].takes] else if ds[i].trick ≠ [] ∧ (!keyB ds[i].trick) = true then 5 else 0) = R
 cases keyB ds[i].key
 ·simp
 ·simp only [Bool.not_true,Bool.false_eq_true,if_false,Nat.lt_irrefl,false_and]
  by_cases c : 0 < i ∧ ¬ (ds.getD (i - 1) default).key < ds[i].key
  ·rw [if_pos c]
   exact ⟨fun h => absurd h (by decide),fun h => absurd (h.2 c.1) c.2⟩
  ·rw [if_neg c]
   exact ⟨fun h => ⟨h,fun h0 => Classical.byContradiction fun h1 => c ⟨h0,h1⟩⟩,fun h => h.1⟩
theorem upS_pw {l : List (List UInt8)} : UpS l ↔ l.Pairwise (· < ·):=by
 rw [List.pairwise_iff_getElem];exact ⟨fun h i j _ hj hij => h.lt i j hj hij,fun h i hi => h i (i + 1) (by omega) hi (by omega)⟩
theorem doors_iff {rs : List RoomE} {ds : List DoorE} : doorsE rs ds = 0 ↔ ds.length ≤ 500 ∧ (∀ d ∈ ds,doorAt rs [d] 0 = 0) ∧ (ds.map DoorE.key).Pairwise (· < ·):=by
 unfold doorsE
 by_cases c : 500 < ds.length
 ·rw [if_pos c]
  exact ⟨fun h => absurd h (by decide),fun h => absurd h.1 (by omega)⟩
 ·rw [if_neg c]
  constructor
  ·intro h
   have h1:=scanF_0 h;refine ⟨by omega,fun d hd => ?_,upS_pw.1 fun i hi => ?_⟩
   ·obtain ⟨i,hi,rfl⟩:=List.mem_iff_getElem.1 hd
    exact ((doorAt_one hi).1 (h1 i hi)).1
   ·have hi' : i + 1 < ds.length:=by simpa using hi
    have:=((doorAt_one hi').1 (h1 _ hi')).2 (by omega);rw [show i + 1 - 1 = i by omega,getD_door (show i < ds.length by omega)] at this
    simpa using this
  ·rintro ⟨_,h1,h2⟩
   refine scanF_none fun j hj => (doorAt_one hj).2 ⟨h1 _ (List.getElem_mem hj),fun h0 => ?_⟩
   have:=List.pairwise_iff_getElem.1 h2 (j - 1) j (by simp; omega) (by simpa using hj) (by omega);rw [getD_door (show j - 1 < ds.length by omega)]
   simpa using this
theorem once_le {l l' : List (List UInt8)} (h : ∀ x ∈ l,x ∈ l') : (onceT l).length ≤ (onceT l').length :=
 once_short (onceT_spec l').1 fun x hx => ((onceT_spec l').2 x).2 (h x hx)
theorem mapE_shut {rs : List RoomE} {ds : List DoorE} {st gl : List UInt8} (h : mapE rs ds st gl = 0) (k : List UInt8) : mapE rs (shutL ds k) st gl = 0:=by
 unfold mapE at h ⊢
 by_cases c1 : roomsE rs = 0
 ·rw [if_neg (fun e => e c1)] at h ⊢
  by_cases c2 : doorsE rs ds = 0
  ·rw [if_neg (fun e => e c2)] at h
   obtain ⟨d1,d2,d3⟩:=doors_iff.1 c2;have hs : (shutL ds k).Sublist ds:=List.filter_sublist;have c2' : doorsE rs (shutL ds k) = 0:=doors_iff.2 ⟨Nat.le_trans hs.length_le d1,fun d hd => d2 d (hs.subset hd),d3.sublist (hs.map _)⟩;rw [if_neg (fun e => e c2')]
   by_cases c3 : (!hasR rs st || !hasR rs gl) = true
   ·rw [if_pos c3] at h; cases h
   rw [if_neg c3] at h ⊢
   have e1 : (onceT (allT rs (shutL ds k))).length ≤ (onceT (allT rs ds)).length:=once_le fun x hx => by
    unfold allT at hx ⊢;rw [List.mem_append,List.mem_flatMap,List.mem_flatMap] at hx ⊢
    exact hx.imp id fun ⟨d,hd,hx⟩ => ⟨d,hs.subset hd,hx⟩
   have e2 : (onceT (allK (shutL ds k))).length ≤ (onceT (allK ds)).length:=once_le fun x hx => by
    unfold allK at hx ⊢;obtain ⟨d,hd,hx⟩:=List.mem_map.1 hx;obtain ⟨hd1,hd2⟩:=List.mem_filter.1 hd;exact List.mem_map.2 ⟨d,List.mem_filter.2 ⟨hs.subset hd1,hd2⟩,hx⟩
   by_cases c4 : 10 < (onceT (allT rs ds)).length ∨ 12 < (onceT (allK ds)).length
   ·rw [if_pos c4] at h; cases h
   ·rw [if_neg (by omega)]
  ·rw [if_pos c2] at h; exact absurd h c2
 ·rw [if_pos c1] at h; exact absurd h c1
theorem okD_some {tr : List (List UInt8)} {wo : List UInt8} {d : DoorE} : (okD tr wo d = true) ↔ d.key ≠ wo ∧ ¬ (d.trick ≠ [] ∧ d.trick ∉ tr):=by
 unfold okD
 by_cases h0 : d.key = wo
 ·simp [h0]
 ·by_cases h1 : d.trick = []
  ·simp [h1]
  ·simp [h1]
section
variable {rs : List RoomE} {ds : List DoorE} {T T' : List (List UInt8)} {tr : List (List UInt8)} {wo st gl : List UInt8}
theorem nxS_iff (hR : Right rs ds st gl) (hTd : onceT (allT rs ds) = T) {room : List UInt8} (hr : room ∈ rs.map RoomE.key) {th : List (List UInt8)} {k : Nat} {y : StE} :
  (k,y) ∈ nxX rs T ds tr wo id (stX rs T room th) ↔ ∃ hk : k < ds.length,goE tr room th ds[k] = 0 ∧ ds[k].key ≠ wo ∧ y = stX rs T ds[k].dst (thru rs th ds[k]):=by
 have hT : T.length ≤ 10:=by rw [← hTd]; exact hR.few
 constructor
 ·intro h
  obtain ⟨hk,z,hp,hy,hsrc,hok⟩:=nxX_mem h;simp only at hk hp hy hsrc hok;rw [getD_door hk] at hp hsrc hok;have hd:=List.getElem_mem hk;rw [passX_th (ds:=ds) hT (needs_sub hTd hd) (show (stX rs T room th).b = bitsT T th from rfl)] at hp
  have hsr : room = ds[k].src:=by
   rw [roomI_mem (hR.src _ hd)] at hsrc;exact ixR_inj hr (hR.src _ hd) (by have : ((stX rs T room th).r : Int) = (ixR rs room : Int):=rfl; rw [this] at hsrc; omega)
  split at hp
  ·rename_i hn
   injection hp with hp;obtain ⟨o1,o2⟩:=okD_some.1 hok;refine ⟨hk,?_,o1,?_⟩
   ·unfold goE
    rw [if_neg (by rw [hsr]; simp),if_neg o2,if_neg (by simpa using hn)]
   ·rw [hy,← hp]; rfl
  ·cases hp
 ·rintro ⟨hk,hg,hw,rfl⟩
  have hd:=List.getElem_mem hk;unfold goE at hg
  split at hg
  ·cases hg
  rename_i c1
  split at hg
  ·cases hg
  rename_i c2
  split at hg
  ·cases hg
  rename_i c3;have hsr : room = ds[k].src:=Classical.not_not.1 c1;have hn:=Classical.not_not.1 c3;unfold nxX;refine List.mem_filterMap.2 ⟨(k : Int),?_,?_⟩
  ·have : roomI rs ds[k].src = ((stX rs T room th).r : Int):=by rw [roomI_mem (hR.src _ hd),← hsr]; rfl
   exact (out_mem hk this).2 (okD_some.2 ⟨hw,c2⟩)
  ·rw [Int.toNat_natCast,getD_door hk,passX_th (ds:=ds) hT (needs_sub hTd hd) (show (stX rs T room th).b = bitsT T th from rfl),if_pos hn]
   rfl
variable {ds' : List DoorE} {wo' : List UInt8}
theorem way_same (hR : Right rs ds st gl) (hTd : onceT (allT rs ds) = T) (hR' : Right rs ds' st gl) (hTd' : onceT (allT rs ds') = T') (hs : ∀ d ∈ ds,d.key ≠ wo → d ∈ ds' ∧ d.key ≠ wo') {x : StE} {t d : Int} {ks : List Nat} (hw : WayX (nxX rs T ds tr wo id) (goalX rs gl) (tmX ds) x t d ks) : ∀ room th,room ∈ rs.map RoomE.key → x = stX rs T room th → ∃ ks',WayX (nxX rs T' ds' tr wo' id) (goalX rs gl) (tmX ds') (stX rs T' room th) t d ks':=by
 induction hw with
 | @stop x h =>
  rintro room th hr rfl;exact ⟨[],.stop ((goalX_room hR hr).2 ((goalX_room hR hr).1 h))⟩
 | @go x y k t d ks hf hm _ ih =>
  rintro room th hr rfl;obtain ⟨hk,hg,hwo,rfl⟩:=(nxS_iff hR hTd hr).1 hm;obtain ⟨ks',hw'⟩:=ih ds[k].dst (thru rs th ds[k]) (hR.dst _ (List.getElem_mem hk)) rfl;obtain ⟨hin,hw2⟩:=hs _ (List.getElem_mem hk) hwo;obtain ⟨k',hk',e⟩:=List.mem_iff_getElem.1 hin
  have ht : tmX ds' k' = tmX ds k:=by unfold tmX; rw [getD_door hk',getD_door hk,e]
  have hf' : goalX rs gl (stX rs T' room th) = false:=by
   cases hgx : goalX rs gl (stX rs T' room th) with
   | false => rfl
   | true => rw [(goalX_room hR hr).2 ((goalX_room hR' hr).1 hgx)] at hf; cases hf
  refine ⟨k' :: ks',?_⟩;rw [← ht];refine .go hf' ((nxS_iff hR' hTd' hr).2 ⟨hk',by rw [e]; exact hg,by rw [e]; exact hw2,rfl⟩) ?_;rw [e]; exact hw'
end
theorem timeS {rs : List RoomE} {ds : List DoorE} {st gl : List UInt8} (hm : mapE rs ds st gl = 0) (tr : List (List UInt8)) (k : List UInt8) : timeF rs ds (onceT (allT rs ds)) tr k st gl = timeT rs (shutL ds k) st gl tr:=by
 have hR:=right_of hm;have hR':=right_of (mapE_shut hm k);have h1:=timeT_is hR' tr;refine timeF_eq ?_
 have a1 : ∀ d ∈ ds,d.key ≠ k → d ∈ shutL ds k ∧ d.key ≠ []:=fun d hd hk => ⟨shut_mem.2 ⟨hd,hk⟩,hR.dkey d hd⟩
 have a2 : ∀ d ∈ shutL ds k,d.key ≠ [] → d ∈ ds ∧ d.key ≠ k:=fun d hd _ => shut_mem.1 hd
 generalize timeT rs (shutL ds k) st gl tr = v at *;rcases h1 with ⟨h1,h2⟩ | ⟨h1,⟨d,ks,h2⟩,h3⟩
 ·exact .inl ⟨h1,fun t d ks hw => by
   obtain ⟨ks',hw'⟩:=way_same hR rfl hR' rfl a1 hw st (givesOf rs st) hR.st rfl
   exact h2 _ _ _ hw'⟩
 ·obtain ⟨ks',hw'⟩:=way_same hR' rfl hR rfl a2 h2 st (givesOf rs st) hR.st rfl
  exact .inr ⟨h1,⟨d,ks',hw'⟩,fun t d ks hw => by
   obtain ⟨ks',hw'⟩:=way_same hR rfl hR' rfl a1 hw st (givesOf rs st) hR.st rfl
   exact h3 _ _ _ hw'⟩

def someF (tr : List (List UInt8)) (k : Nat) : Nat → List (List UInt8)
 | 0 => []
 | i + 1 => someF tr k i ++ (if k / 2 ^ i % 2 = 1 then [tr.getD i []] else [])
theorem someF_sub (tr : List (List UInt8)) (k : Nat) : ∀ i,i ≤ tr.length → (someF tr k i).Sublist (tr.take i)
 | 0,_ => by simp [someF]
 | i + 1,h => by
  have h1:=someF_sub tr k i (by omega);unfold someF;rw [List.take_add_one,List.getElem?_eq_getElem (show i < tr.length by omega),List.getD_eq_getElem?_getD,List.getElem?_eq_getElem (show i < tr.length by omega)];refine h1.append ?_
  split
  ·exact List.Sublist.refl _
  ·exact List.nil_sublist _
theorem someF_mod (tr : List (List UInt8)) (k m : Nat) : ∀ i,i ≤ m → someF tr (k % 2 ^ m) i = someF tr k i
 | 0,_ => rfl
 | i + 1,h => by
  unfold someF;rw [someF_mod tr k m i (by omega)]
  have e : k % 2 ^ m / 2 ^ i % 2 = k / 2 ^ i % 2:=by
   have h1:=Nat.testBit_mod_two_pow k m i;rw [decide_eq_true (show i < m by omega),Bool.true_and,Nat.testBit_eq_decide_div_mod_eq,Nat.testBit_eq_decide_div_mod_eq] at h1;have h2:=decide_eq_decide.1 h1;have h3:=Nat.mod_two_eq_zero_or_one (k % 2 ^ m / 2 ^ i);have h4:=Nat.mod_two_eq_zero_or_one (k / 2 ^ i);omega
  rw [e]
theorem sub_snoc {s l : List (List UInt8)} {x : List UInt8} (h : s.Sublist (l ++ [x])) : s.Sublist l ∨ ∃ s',s = s' ++ [x] ∧ s'.Sublist l:=by
 obtain ⟨a,b,rfl,h1,h2⟩:=List.sublist_append_iff.1 h
 cases h2 with
 | cons _ h2 => rw [List.sublist_nil.1 h2]; exact .inl (by simpa using h1)
 | cons_cons _ h2 => rw [List.sublist_nil.1 h2]; exact .inr ⟨a,rfl,h1⟩
theorem someF_all (tr : List (List UInt8)) : ∀ i,i ≤ tr.length → ∀ s,s.Sublist (tr.take i) → ∃ k,k < 2 ^ i ∧ someF tr k i = s
 | 0,_,s,h => ⟨0,by simp,by rw [List.take_zero] at h; rw [List.sublist_nil.1 h]; rfl⟩
 | i + 1,hi,s,h => by
  have hp : 2 ^ (i + 1) = 2 ^ i + 2 ^ i:=by rw [Nat.pow_succ]; omega
  have hp0 : 0 < 2 ^ i:=Nat.two_pow_pos i
  have hg : tr.getD i [] = tr[i]:=by rw [List.getD_eq_getElem?_getD,List.getElem?_eq_getElem (show i < tr.length by omega)]; rfl
  rw [List.take_add_one,List.getElem?_eq_getElem (show i < tr.length by omega),Option.toList_some] at h;rcases sub_snoc h with h1 | ⟨s',rfl,h1⟩
  ·obtain ⟨k,hk,e⟩:=someF_all tr i (by omega) s h1
   refine ⟨k,by omega,?_⟩;unfold someF;rw [e,Nat.div_eq_of_lt hk]; simp
  ·obtain ⟨k,hk,e⟩:=someF_all tr i (by omega) s' h1
   refine ⟨k + 2 ^ i,by omega,?_⟩;unfold someF;rw [← someF_mod tr (k + 2 ^ i) i i (Nat.le_refl _),Nat.add_mod_right,Nat.mod_eq_of_lt hk,e,Nat.add_div_right _ hp0,Nat.div_eq_of_lt hk,if_pos (by decide),hg]
def lbE (a b : List (List UInt8)) : Int:=firstE [cmpI (a.length : Int) (b.length : Int),cmpLS a b]
theorem lbE_lt (a b : List (List UInt8)) : lbE a b < 0 ↔ a.length < b.length ∨ a.length = b.length ∧ cmpLS a b < 0:=by
 have h1:=cmpI_lt (a.length : Int) (b.length : Int);have h2:=cmpI_eq (a.length : Int) (b.length : Int);unfold lbE
 by_cases c : cmpI (a.length : Int) (b.length : Int) = 0
 ·rw [show firstE [cmpI (a.length : Int) (b.length : Int),cmpLS a b] = cmpLS a b by simp only [firstE,c]; by_cases c2 : cmpLS a b = 0 <;> simp [c2]]
  omega
 ·rw [show firstE [cmpI (a.length : Int) (b.length : Int),cmpLS a b] = cmpI (a.length : Int) (b.length : Int) by simp [firstE,c]]
  omega
def learnS (f : List (List UInt8) → Int) (most : Int) (tr : List (List UInt8)) (st : List (List UInt8) × Bool) (k : Nat) : List (List UInt8) × Bool :=
 if fastB f most (someF tr k tr.length) = true ∧ (st.2 = false ∨ lbE (someF tr k tr.length) st.1 < 0) then (someF tr k tr.length,true) else st
def learnR (f : List (List UInt8) → Int) (most : Int) (tr : List (List UInt8)) (n : Nat) : List (List UInt8) × Bool:=(List.range n).foldl (learnS f most tr) ([],false)
theorem learnR_succ (f : List (List UInt8) → Int) (most : Int) (tr : List (List UInt8)) (n : Nat) : learnR f most tr (n + 1) = learnS f most tr (learnR f most tr n) n:=by
 unfold learnR;rw [List.range_succ,List.foldl_append]; rfl
theorem lbE_trans {a b c : List (List UInt8)} (h1 : ¬ lbE b a < 0) (h2 : lbE c a < 0) : lbE c b < 0:=by
 rw [lbE_lt] at h1 h2 ⊢;have h3:=cmpLS_tot.flip;have h4:=cmpLS_tot.eq;rcases h2 with h2 | ⟨h2,h2'⟩
 ·omega
 ·by_cases e : b.length = a.length
  ·refine .inr ⟨by omega,?_⟩
   have h5 : ¬ cmpLS b a < 0:=fun h => h1 (.inr ⟨e,h⟩)
   rcases Int.lt_trichotomy (cmpLS b a) 0 with h6 | h6 | h6
   ·exact absurd h6 h5
   ·rw [(h4 b a).1 h6]; exact h2'
   ·exact cmpLS_tot.trans _ _ _ h2' ((h3 a b).2 h6)
  ·omega
theorem learnR_is (f : List (List UInt8) → Int) (most : Int) (tr : List (List UInt8)) : ∀ n,((learnR f most tr n).2 = false → (learnR f most tr n).1 = [] ∧ ∀ k,k < n → fastB f most (someF tr k tr.length) = false) ∧ ((learnR f most tr n).2 = true → (∃ k,k < n ∧ (learnR f most tr n).1 = someF tr k tr.length) ∧ fastB f most (learnR f most tr n).1 = true ∧ ∀ k,k < n → fastB f most (someF tr k tr.length) = true → ¬ lbE (someF tr k tr.length) (learnR f most tr n).1 < 0)
 | 0 => ⟨fun _ => ⟨rfl,fun k hk => absurd hk (Nat.not_lt_zero k)⟩,fun h => by cases h⟩
 | n + 1 => by
  obtain ⟨h1,h2⟩:=learnR_is f most tr n;rw [learnR_succ];generalize learnR f most tr n = st at *;unfold learnS
  by_cases c : fastB f most (someF tr n tr.length) = true ∧ (st.2 = false ∨ lbE (someF tr n tr.length) st.1 < 0)
  ·rw [if_pos c]
   refine ⟨fun h => (by cases h),fun _ => ⟨⟨n,by omega,rfl⟩,c.1,fun k hk hf hl => ?_⟩⟩;rcases Nat.lt_or_ge k n with hk' | hk'
   ·cases hs : st.2 with
    | false => rw [(h1 hs).2 k hk'] at hf; cases hf
    | true =>
     obtain ⟨_,_,h3⟩:=h2 hs;have h4 : lbE (someF tr n tr.length) st.1 < 0:=c.2.resolve_left (by simp [hs]);refine h3 k hk' hf ?_;refine lbE_trans (b:=st.1) (a:=someF tr n tr.length) ?_ hl;intro h5;rw [lbE_lt] at h4 h5
     have h6:=(cmpLS_tot.flip (someF tr n tr.length) st.1)
     omega
   ·have : k = n:=by omega
    subst this;have h6:=(cmpLS_tot.eq (someF tr k tr.length) (someF tr k tr.length)).2 rfl;simp only at hl;rw [lbE_lt] at hl;omega
  ·rw [if_neg c]
   refine ⟨fun h => ⟨(h1 h).1,fun k hk => ?_⟩,fun h => ?_⟩
   ·rcases Nat.lt_or_ge k n with hk' | hk'
    ·exact (h1 h).2 k hk'
    ·have : k = n:=by omega
     subst this
     cases hf : fastB f most (someF tr k tr.length) with
     | false => rfl
     | true => exact absurd ⟨hf,.inl h⟩ c
   ·obtain ⟨⟨j,hj,e⟩,h4,h5⟩:=h2 h
    refine ⟨⟨j,by omega,e⟩,h4,fun k hk hf hl => ?_⟩;rcases Nat.lt_or_ge k n with hk' | hk'
    ·exact h5 k hk' hf hl
    ·have : k = n:=by omega
     subst this;exact c ⟨hf,.inr hl⟩
theorem cmpLS_app : ∀ (t a b : List (List UInt8)),cmpLS (t ++ a) (t ++ b) = cmpLS a b
 | [],_,_ => rfl
 | x :: t,a,b => by
  have e : sgnS x x = 0:=(sgnS_tot.eq x x).2 rfl;show cmpLS (x :: (t ++ a)) (x :: (t ++ b)) = _;rw [cmpLS,if_neg (by simp [e])];exact cmpLS_app t a b
theorem combos_form : ∀ (l : List (List UInt8)) (k : Nat) (t c : List (List UInt8)),c ∈ combos l (k + 1) t → ∃ y ∈ l,∃ s,c = t ++ y :: s
 | [],k,t,c,h => by cases h
 | x :: l,k,t,c,h => by
  rcases List.mem_append.1 (show c ∈ combos l k (t ++ [x]) ++ combos l (k + 1) t from h) with h | h
  ·obtain ⟨s,rfl,_,_⟩:=combos_is l k _ c h
   exact ⟨x,by simp,s,by simp⟩
  ·obtain ⟨y,hy,s,e⟩:=combos_form l k t c h
   exact ⟨y,List.mem_cons_of_mem _ hy,s,e⟩
theorem combos_up : ∀ (l : List (List UInt8)) (k : Nat) (t : List (List UInt8)),l.Pairwise (· < ·) → (combos l k t).Pairwise (fun a b => cmpLS a b < 0)
 | l,0,t,_ => by rw [combos_0]; exact List.pairwise_singleton _ _
 | [],_ + 1,_,_ => List.Pairwise.nil
 | x :: l,k + 1,t,hp => by
  obtain ⟨h1,h2⟩:=List.pairwise_cons.1 hp;show (combos l k (t ++ [x]) ++ combos l (k + 1) t).Pairwise _;refine List.pairwise_append.2 ⟨combos_up l k _ h2,combos_up l (k + 1) t h2,fun a ha b hb => ?_⟩;obtain ⟨s,rfl,_,_⟩:=combos_is l k _ a ha;obtain ⟨y,hy,s',rfl⟩:=combos_form l k t b hb;rw [List.append_assoc,cmpLS_app]
  have e : sgnS x y = -1:=by unfold sgnS; rw [if_pos (h1 y hy)]
  show cmpLS (x :: s) (y :: s') < 0;rw [cmpLS,if_pos (by rw [e]; decide),e]; decide
theorem find_first {α : Type} {r : α → α → Prop} {p : α → Bool} {x : α} : ∀ {l : List α},l.Pairwise r → l.find? p = some x → ∀ y ∈ l,p y = true → y = x ∨ r x y
 | [],_,h,_,_,_ => by cases h
 | a :: l,hp,h,y,hy,hf => by
  obtain ⟨h1,h2⟩:=List.pairwise_cons.1 hp
  by_cases c : p a = true
  ·rw [List.find?_cons_of_pos c] at h
   injection h with h;subst h;rcases List.mem_cons.1 hy with rfl | hy
   ·exact .inl rfl
   ·exact .inr (h1 y hy)
  ·rw [List.find?_cons_of_neg c] at h
   rcases List.mem_cons.1 hy with rfl | hy
   ·exact absurd hf c
   ·exact find_first h2 h y hy hf
theorem learn_same {f : List (List UInt8) → Int} {most : Int} {tr l : List (List UInt8)} (htr : tr.Pairwise (· < ·)) (h : LearnOk f most tr l) : learnR f most tr (2 ^ tr.length) = (l,true):=by
 obtain ⟨hs,hf,_⟩:=learn_is h;obtain ⟨h1,h2⟩:=learnR_is f most tr (2 ^ tr.length);obtain ⟨k,hk,e⟩:=someF_all tr tr.length (Nat.le_refl _) l (by rw [List.take_length]; exact hs);generalize learnR f most tr (2 ^ tr.length) = R at *;obtain ⟨b,is⟩:=R;simp only at h1 h2
 cases is with
 | false => have:=(h1 rfl).2 k hk; rw [e,hf] at this; cases this
 | true =>
  obtain ⟨⟨j,hj,ej⟩,hb,h3⟩:=h2 rfl;have h4:=h3 k hk (by rw [e]; exact hf);rw [e,lbE_lt] at h4
  have hbs : b.Sublist tr:=by have:=someF_sub tr j tr.length (Nat.le_refl _); rw [List.take_length] at this; rw [ej]; exact this
  obtain ⟨m,_,g1,g2⟩:=h;obtain ⟨s,e1,_,e2⟩:=combos_is tr m [] l (List.mem_of_find?_eq_some g1);rw [List.nil_append] at e1;subst e1
  have hbl : ¬ b.length < m:=fun c => by
   have g3:=List.find?_eq_none.1 (g2 _ c) _ (combos_sub tr b [] hbs);rw [List.nil_append] at g3;exact g3 hb
  have hbm : b.length = m:=by omega
  have g4:=combos_sub tr b [] hbs;rw [List.nil_append,hbm] at g4;rcases find_first (combos_up tr m [] htr) g1 b g4 hb with rfl | g5
  ·rfl
  ·exact absurd (.inr ⟨by omega,g5⟩) h4
theorem learn_none {f : List (List UInt8) → Int} {most : Int} {tr : List (List UInt8)} (hmono : ∀ l l' : List (List UInt8),(∀ s ∈ l,s ∈ l') → 0 ≤ f l → 0 ≤ f l' ∧ f l' ≤ f l) (h : fastB f most tr = false) (n : Nat) : learnR f most tr n = ([],false):=by
 obtain ⟨h1,h2⟩:=learnR_is f most tr n;generalize learnR f most tr n = R at *;obtain ⟨b,is⟩:=R;simp only at h1 h2
 cases is with
 | false => rw [(h1 rfl).1]
 | true =>
  obtain ⟨⟨j,_,ej⟩,hb,_⟩:=h2 rfl
  have hbs : b.Sublist tr:=by have:=someF_sub tr j tr.length (Nat.le_refl _); rw [List.take_length] at this; rw [ej]; exact this
  unfold fastB at hb h;simp only [Bool.and_eq_true,decide_eq_true_eq] at hb;obtain ⟨m1,m2⟩:=hmono b tr (fun s hs => hbs.subset hs) hb.1
  have : (decide (0 ≤ f tr) && decide (f tr ≤ most)) = true:=by simp only [Bool.and_eq_true,decide_eq_true_eq]; omega
  rw [this] at h; cases h
end Go.Proofs.YtjggbpchmbdocaaGreatDoor
/- One round of spreadOut, plain; the names of stands; what is found in memory. -/
namespace Go.Proofs.YtjggbpchmbdocaaGreatDoor
open Go.RowKit

structure RndI (nx : StE → List (Nat × StE)) (ef : StE → Bool) (tm : Nat → Int) (s0 : StE) (M0 M : FoundM) (dn : StE → Prop) : Prop where
  sp : SpW nx ef tm s0 M
  le : leM M M0
  cl : ∀ x a, dn x → M0 x = some a → ef x = false → ∀ k y, (k, y) ∈ nx x → ∃ b, M y = some b ∧ leP b (extP tm a k)
structure DrI (nx : StE → List (Nat × StE)) (ef : StE → Bool) (tm : Nat → Int) (s0 : StE) (M0 M : FoundM) (dn : StE → Prop) (x : StE) (a : PwE) (j : Nat) : Prop where
  rd : RndI nx ef tm s0 M0 M dn
  way : WayF nx ef tm s0 x a
  fr : ∀ b, M0 x = some b → leP a b
  dr : ∀ k y, k < j → (k, y) ∈ nx x → ∃ b, M y = some b ∧ leP b (extP tm a k)
section
variable {nx : StE → List (Nat × StE)} {ef : StE → Bool} {tm : Nat → Int} {s0 x y : StE} {a b : PwE} {M0 M M' : FoundM} {dn dn' : StE → Prop} {j : Nat}
theorem RndI.start (h : SpW nx ef tm s0 M) : RndI nx ef tm s0 M M (fun _ => False):=⟨h,leM_refl M,fun _ _ h => h.elim⟩
theorem cl_mono (h : leM M' M) {k : Nat} (hc : ∃ b,M y = some b ∧ leP b (extP tm a k)) : ∃ b,M' y = some b ∧ leP b (extP tm a k):=by
 obtain ⟨b,h1,h2⟩:=hc;obtain ⟨c,h3,h4⟩:=h y b h1;exact ⟨c,h3,leP_trans h4 h2⟩
theorem RndI.put (h : RndI nx ef tm s0 M0 M dn) (hw : WayF nx ef tm s0 y a) (hb : ∀ b,M y = some b → ltP a b) : RndI nx ef tm s0 M0 (putM M y a) dn:=by
 have hl : leM (putM M y a) M:=putM_le fun b hb' => leP_of_lt (hb b hb')
 exact ⟨h.sp.put hw hb,leM_trans hl h.le,fun x c hx h0 hf k z hm => cl_mono hl (h.cl x c hx h0 hf k z hm)⟩
theorem RndI.begin (h : RndI nx ef tm s0 M0 M dn) (hx : M x = some a) (h0 : ∃ b,M0 x = some b) : DrI nx ef tm s0 M0 M dn x a 0:=by
 refine ⟨h,h.sp.way x a hx,fun b hb => ?_,fun k y hk => absurd hk (Nat.not_lt_zero k)⟩;obtain ⟨c,h1,h2⟩:=h.le x b hb;rw [hx] at h1;injection h1 with h1;rw [h1]; exact h2
theorem DrI.skip (h : DrI nx ef tm s0 M0 M dn x a j) (hn : ∀ y,(j,y) ∉ nx x) : DrI nx ef tm s0 M0 M dn x a (j + 1) :=
 ⟨h.rd,h.way,h.fr,fun k z hk hm => by
  by_cases e : k = j
  ·subst e; exact absurd hm (hn z)
  ·exact h.dr k z (by omega) hm⟩
theorem DrI.keep (h : DrI nx ef tm s0 M0 M dn x a j) (hu : ∀ z,(j,z) ∈ nx x → z = y) (hy : M y = some b) (hl : leP b (extP tm a j)) : DrI nx ef tm s0 M0 M dn x a (j + 1) :=
 ⟨h.rd,h.way,h.fr,fun k z hk hm => by
  by_cases e : k = j
  ·subst e; rw [hu z hm]; exact ⟨b,hy,hl⟩
  ·exact h.dr k z (by omega) hm⟩
theorem DrI.put (h : DrI nx ef tm s0 M0 M dn x a j) (hf : ef x = false) (hm : (j,y) ∈ nx x) (hu : ∀ z,(j,z) ∈ nx x → z = y) (hb : ∀ b,M y = some b → ltP (extP tm a j) b) : DrI nx ef tm s0 M0 (putM M y (extP tm a j)) dn x a (j + 1):=by
 have hl : leM (putM M y (extP tm a j)) M:=putM_le fun b hb' => leP_of_lt (hb b hb')
 refine ⟨h.rd.put (.snoc h.way hf hm) hb,h.way,h.fr,fun k z hk hz => ?_⟩
 by_cases e : k = j
 ·subst e
  rw [hu z hz];exact ⟨_,by unfold putM; rw [if_pos rfl],leP_refl _⟩
 ·exact cl_mono hl (h.dr k z (by omega) hz)
theorem DrI.done (h : DrI nx ef tm s0 M0 M dn x a j) (hj : ∀ k y,(k,y) ∈ nx x → k < j) (hd : ∀ z,dn' z → dn z ∨ z = x) : RndI nx ef tm s0 M0 M dn' :=
 ⟨h.rd.sp,h.rd.le,fun z c hz h0 hf k y hm => by
  rcases hd z hz with hz | rfl
  ·exact h.rd.cl z c hz h0 hf k y hm
  ·obtain ⟨b,h1,h2⟩:=h.dr k y (hj k y hm) hm
   exact ⟨b,h1,leP_trans h2 (extP_le (h.fr c h0) k)⟩⟩
theorem RndI.ends (h : RndI nx ef tm s0 M0 M dn) (hf : ef x = true) (hd : ∀ z,dn' z → dn z ∨ z = x) : RndI nx ef tm s0 M0 M dn' :=
 ⟨h.sp,h.le,fun z c hz h0 hf' k y hm => by
  rcases hd z hz with hz | rfl
  ·exact h.cl z c hz h0 hf' k y hm
  ·rw [hf] at hf'; cases hf'⟩
theorem RndI.next {r : Nat} (h : RndI nx ef tm s0 M0 M dn) (hd : ∀ z,(M0 z).isSome = true → dn z) (hr : RdI nx ef tm s0 M0 r) : RdI nx ef tm s0 M (r + 1) :=
 hr.next h.sp h.le fun x a hx hf k y hm => h.cl x a (hd x (by rw [hx]; rfl)) hx hf k y hm
theorem RndI.best (h : RndI nx ef tm s0 M0 M0 dn) (hd : ∀ z,(M0 z).isSome = true → dn z) : (∀ x a,M0 x = some a → BestF nx ef tm s0 x a) ∧ ∀ x,ReachX nx ef s0 x → ∃ a,M0 x = some a :=
 h.sp.best fun x a hx hf k y hm => h.cl x a (hd x (by rw [hx]; rfl)) hx hf k y hm
theorem DrI.still {r : Nat} (h : DrI nx ef tm s0 M0 M dn x a j) (ht : ∀ x p,p ∈ nx x → 1 ≤ tm p.1) (hr : RdI nx ef tm s0 M0 r) (hN : ∀ x a,BestF nx ef tm s0 x a → a.2.length ≤ r) (hf : ef x = false) (hm : (j,y) ∈ nx x) : ∃ b,M y = some b ∧ leP b (extP tm a j):=by
 obtain ⟨c,h1,h2⟩:=hr.still ht hN (.snoc h.way hf hm);obtain ⟨b,h3,h4⟩:=h.rd.le y c h1;exact ⟨b,h3,leP_trans h4 h2⟩
end
def nameS (room : List UInt8) (th : List (List UInt8)) (k : Nat) : List UInt8:=room ++ [32] ++ Lib.join th [44] ++ [32] ++ [UInt8.ofNat (48 + k)]
def nameX (rs : List RoomE) (T : List (List UInt8)) (x : StE) : List UInt8:=nameS (ptX rs T x).1 (ptX rs T x).2 x.s
theorem digit_inj : ∀ k < 9,∀ m < 9,UInt8.ofNat (48 + k) = UInt8.ofNat (48 + m) → k = m:=by decide +kernel
structure NmOk (rs : List RoomE) (T : List (List UInt8)) : Prop where
  inj : ∀ x y, GoodX rs T x → GoodX rs T y → nameX rs T x = nameX rs T y → x = y
  len : ∀ x, GoodX rs T x → (nameX rs T x).length ≤ 1000
theorem ptX_good {rs : List RoomE} {T : List (List UInt8)} {x : StE} (hT : T.Pairwise (· < ·)) (h : GoodX rs T x) : ∃ room th,room ∈ rs.map RoomE.key ∧ ThOk T th ∧ x = ⟨ixR rs room,bitsT T th,x.s⟩ ∧ ptX rs T x = (room,th) ∧ x.s ≤ 5:=by
 obtain ⟨⟨room,hr,e1⟩,⟨th,ht,e2⟩,h3⟩:=h;refine ⟨room,th,hr,ht,?_,?_,h3⟩
 ·cases x
  simp only at e1 e2;subst e1 e2;rfl
 ·rw [← ptX_st (rs:=rs) hr hT ht]
  unfold ptX stX;rw [e1,e2]
structure FndOk (W : World) (lo : Nat) (ds : List DoorE) (pt : List UInt8 × List (List UInt8)) (s : Nat) (a : PwE) (p : FndC) : Prop where
  room : p.room = pt.1
  tn : p.tn = pt.2.length
  tc : pt.2.length ≤ p.tc
  things : Row W lo 1 p.ta pt.2.length (strs pt.2)
  done : p.done = (s : Int)
  dn : p.dn = a.2.length
  doors : Row W lo 1 p.da a.2.length (strs (a.2.map (keyX ds)))
  time : p.time = a.1
theorem FndOk.below {W W' : World} {lo : Nat} {ds : List DoorE} {pt : List UInt8 × List (List UInt8)} {s : Nat} {a : PwE} {p : FndC} (h : FndOk W lo ds pt s a p) (hb : Below W.heap.size W W') : FndOk W' lo ds pt s a p :=
 { h with things:=h.things.below hb,doors:=h.doors.below hb }
structure FndI (W : World) (lo : Nat) (rs : List RoomE) (ds : List DoorE) (T : List (List UInt8)) (f : List UInt8 → Option FndC) (M : FoundM) : Prop where
  good : ∀ x a, M x = some a → GoodX rs T x
  there : ∀ x a, M x = some a → ∃ p, f (nameX rs T x) = some p ∧ FndOk W lo ds (ptX rs T x) x.s a p
  only : ∀ key, (f key).isSome = true → ∃ x a, M x = some a ∧ key = nameX rs T x
section
variable {W W' : World} {lo : Nat} {rs : List RoomE} {ds : List DoorE} {T : List (List UInt8)} {f : List UInt8 → Option FndC} {M : FoundM} {x y : StE} {a : PwE} {p : FndC}
theorem FndI.below (h : FndI W lo rs ds T f M) (hb : Below W.heap.size W W') : FndI W' lo rs ds T f M :=
 ⟨h.good,fun x a hx => let ⟨p,h1,h2⟩:=h.there x a hx; ⟨p,h1,h2.below hb⟩,h.only⟩
theorem FndI.look (h : FndI W lo rs ds T f M) (hn : NmOk rs T) (hy : GoodX rs T y) (ha : M y = none) : f (nameX rs T y) = none:=by
 cases e : f (nameX rs T y) with
 | none => rfl
 | some p =>
  obtain ⟨x,b,h1,h2⟩:=h.only (nameX rs T y) (by rw [e]; rfl);rw [hn.inj y x hy (h.good x b h1) h2,h1] at ha
  cases ha
theorem FndI.put (h : FndI W lo rs ds T f M) (hn : NmOk rs T) (hy : GoodX rs T y) (hp : FndOk W lo ds (ptX rs T y) y.s a p) : FndI W lo rs ds T (fun z => if z = nameX rs T y then some p else f z) (putM M y a):=by
 have hcase : ∀ x b,putM M y a x = some b → (x = y ∧ b = a) ∨ (x ≠ y ∧ M x = some b):=by
  intro x b hx;unfold putM at hx
  by_cases e : x = y
  ·rw [if_pos e] at hx; injection hx with hx; exact .inl ⟨e,hx.symm⟩
  ·rw [if_neg e] at hx; exact .inr ⟨e,hx⟩
 refine ⟨fun x b hx => ?_,fun x b hx => ?_,fun key hk => ?_⟩
 ·rcases hcase x b hx with ⟨rfl,_⟩ | ⟨_,hx⟩
  ·exact hy
  ·exact h.good x b hx
 ·rcases hcase x b hx with ⟨rfl,rfl⟩ | ⟨e,hx⟩
  ·exact ⟨p,if_pos rfl,hp⟩
  ·obtain ⟨q,h1,h2⟩:=h.there x b hx
   exact ⟨q,by rw [if_neg (fun e' => e (hn.inj x y (h.good x b hx) hy e'))]; exact h1,h2⟩
 ·by_cases e : key = nameX rs T y
  ·exact ⟨y,a,by unfold putM; rw [if_pos rfl],e⟩
  ·rw [if_neg e] at hk
   obtain ⟨x,b,h1,h2⟩:=h.only key hk;refine ⟨x,b,?_,h2⟩;unfold putM;rw [if_neg (by rintro rfl; exact e h2)]; exact h1
end
end Go.Proofs.YtjggbpchmbdocaaGreatDoor
