/- Texts of this seat, laid together: HpY. -/
import Derived.Deep.DeepCutAuto
import Derived.Deep.CutRange
import Derived.Test.YthchgkdhegaehaaGreatDoorBv39
import Derived.Test.YthchgkdhegaehaaGreatDoorBv38
/- choose, Learn's closures and Learn. -/
namespace Go.Proofs.YthchgkdhegaehaaGreatDoor
set_option linter.unusedVariables false
set_option linter.unusedSimpArgs false
open Go.RowKit

def combos : List (List UInt8) → Nat → List (List UInt8) → List (List (List UInt8))
 | [],0,t => [t]
 | [],_ + 1,_ => []
 | _ :: _,0,t => [t]
 | s :: l,k + 1,t => combos l k (t ++ [s]) ++ combos l (k + 1) t
theorem combos_0 (l t : List (List UInt8)) : combos l 0 t = [t]:=by cases l <;> rfl
theorem combos_drop (l : List (List UInt8)) (k : Nat) (t : List (List UInt8)) {i : Nat} (hi : i < l.length) : combos (l.drop i) (k + 1) t = combos (l.drop (i + 1)) k (t ++ [l[i]]) ++ combos (l.drop (i + 1)) (k + 1) t:=by
 rw [List.drop_eq_getElem_cons hi]; rfl
theorem combos_sub : ∀ (l s t : List (List UInt8)),s.Sublist l → t ++ s ∈ combos l s.length t
 | [],s,t,h => by
  have:=List.sublist_nil.1 h
  subst this
  rw [List.length_nil,combos_0]; simp
 | x :: l,s,t,h => by
  cases s with
  | nil => rw [List.length_nil,combos_0]; simp
  | cons y s =>
   rw [List.length_cons]
   show t ++ y :: s ∈ combos l s.length (t ++ [x]) ++ combos l (s.length + 1) t
   cases h with
   | cons _ h => exact List.mem_append_right _ (combos_sub l (y :: s) t h)
   | cons_cons _ h =>
    refine List.mem_append_left _ ?_
    have:=combos_sub l s (t ++ [x]) h
    simpa using this
theorem combos_is : ∀ (l : List (List UInt8)) (k : Nat) (t c : List (List UInt8)),c ∈ combos l k t → ∃ s,c = t ++ s ∧ s.Sublist l ∧ s.length = k
 | l,0,t,c,h => by rw [combos_0] at h; simp at h; exact ⟨[],by simp [h],List.nil_sublist _,rfl⟩
 | [],k + 1,t,c,h => by cases h
 | x :: l,k + 1,t,c,h => by
  rcases List.mem_append.1 (show c ∈ combos l k (t ++ [x]) ++ combos l (k + 1) t from h) with h | h
  ·obtain ⟨s,rfl,h2,h3⟩:=combos_is l k _ c h
   exact ⟨x :: s,by simp,h2.cons_cons x,by simp [h3]⟩
  ·obtain ⟨s,rfl,h2,h3⟩:=combos_is l (k + 1) _ c h
   exact ⟨s,rfl,h2.cons x,h3⟩
def StR (ob : Nat) (W : World) (A : Option Addr) (xs : List (List UInt8)) : Prop:=∀ W',W.grownBy W' (some ob) → Row W' 0 1 A xs.length (strs xs)
theorem StR.now {ob : Nat} {W : World} {A : Option Addr} {xs : List (List UInt8)} (h : StR ob W A xs) : Row W 0 1 A xs.length (strs xs):=h W (World.grownBy.refl _ _)
theorem StR.on {ob : Nat} {W W' : World} {A : Option Addr} {xs : List (List UInt8)} (h : StR ob W A xs) (hg : W.grownBy W' (some ob)) : StR ob W' A xs:=fun V hV => h V (grown_trans' hg hV)
theorem StR.of {ob : Nat} {W : World} {A : Option Addr} {xs : List (List UInt8)} {lo : Nat} (h : Row W lo 1 A xs.length (strs xs)) (hne : ∀ a,A = some a → a.block ≠ ob) : StR ob W A xs:=fun W' hg =>
 row_down0 (h.grown_x hg (fun a j ha hj => by injection hj with hj; rw [← hj]; exact hne a ha))
theorem own_capY {w : World} {base : Nat} {e : TypeId} {A : Option Addr} {n c : Nat} {xs : List Value} (h : w.ownsRow base e 1 (.slice A n c) n xs) : n ≤ c:=by
 rcases h.2 with ⟨hv,h0⟩ | ⟨g,cap,cur,hv,_,_,hcap,_⟩
 ·omega
 ·injection hv with _ _ h3; omega
theorem rest_slice {ob : Nat} {wr : World} {lb loff lc i : Nat} {l : List (List UInt8)} (hlc : l.length ≤ lc) (h : ∀ V,Below wr.heap.size wr V → StR ob V (some ⟨lb,loff,none⟩) l) : ∃ (RA : Option Addr) (RC : Nat),(if lc = i + 1 then RA = some ⟨lb,loff,none⟩ ∧ RC = 0 else RA = some ⟨lb,loff + (i + 1),none⟩ ∧ RC = lc - (i + 1)) ∧ l.length - (i + 1) ≤ RC ∧ ∀ V,Below wr.heap.size wr V → StR ob V RA (l.drop (i + 1)):=by
 by_cases c : lc = i + 1
 ·refine ⟨some ⟨lb,loff,none⟩,0,by rw [if_pos c]; exact ⟨rfl,rfl⟩,by omega,fun V hV => ?_⟩
  have : l.drop (i + 1) = []:=List.drop_eq_nil_of_le (by omega)
  rw [this]; exact fun _ _ => Row.none_ _ _ _ _
 ·refine ⟨some ⟨lb,loff + (i + 1),none⟩,lc - (i + 1),by rw [if_neg c]; exact ⟨rfl,rfl⟩,by omega,fun V hV W' hW' => ?_⟩
  have hr:=h V hV W' hW'
  refine ⟨by simp [strs],fun h0 => ?_⟩
  rw [List.length_drop] at h0
  obtain ⟨b,off,e,h1,h2,h3⟩:=hr.2 (by omega)
  injection e with e
  injection e with e1 e2
  subst e1 e2
  refine ⟨lb,loff + (i + 1),rfl,h1,h2,fun j u hu => ?_⟩
  rw [Nat.add_assoc]
  refine h3 (i + 1 + j) u ?_
  have e : strs (l.drop (i + 1)) = (strs l).drop (i + 1):=by simp [strs]
  rwa [e,List.getElem?_drop] at hu
def OutIs (W : World) (ob : Nat) (x : List (List UInt8)) : Prop:=∃ OA oc,Blk W ob 31 #[.slice OA x.length oc] ∧ Row W 0 1 OA x.length (strs x)
structure JL (w2 W : World) (mp qb fb ob : Nat) (most : Int) : Prop where
  b : Below w2.heap.size w2 W
  q : Blk W qb 3 #[.int .i64 most]
  f : Blk W fb 107 #[.func (.func 45) #[] #[.pointer (some ⟨mp, 0, none⟩), .pointer (some ⟨qb, 0, none⟩)]]
  o : ∃ OA on oc, Blk W ob 31 #[.slice OA on oc]
  z : w2.heap.size ≤ ob
  ne : qb ≠ ob ∧ fb ≠ ob
theorem JL.below {w2 W W' : World} {mp qb fb ob : Nat} {most : Int} (h : JL w2 W mp qb fb ob most) (hb : Below W.heap.size W W') : JL w2 W' mp qb fb ob most :=
 ⟨below_up h.b hb,h.q.below hb,h.f.below hb,let ⟨a,b,c,d⟩:=h.o; ⟨a,b,c,d.below hb⟩,h.z,h.ne⟩
def TimeOk (w2 : World) (mp : Nat) (f : List (List UInt8) → Int) : Prop :=
 ∀ (W : World) (B : Option Addr) (lo3 c3 : Nat) (l : List (List UInt8)),Below w2.heap.size w2 W → Row W lo3 1 B l.length (strs l) → l.length ≤ 1000000 → Calls Tryz.prog 38 #[.pointer (some ⟨mp,0,none⟩),.slice B l.length c3,.string ⟨#[]⟩] W fun e w' => e = .returned (.int .i64 (f l)) ∧ (-1 ≤ f l ∧ f l ≤ 530841600000000) ∧ Below W.heap.size W w'
def fastB (f : List (List UInt8) → Int) (most : Int) (l : List (List UInt8)) : Bool:=decide (0 ≤ f l) && decide (f l ≤ most)
theorem fast_any0 {w2 W : World} {mp qb : Nat} {most : Int} {f : List (List UInt8) → Int} (hT : TimeOk w2 mp f) (hbl : Below w2.heap.size w2 W) (hq : Blk W qb 3 #[.int .i64 most]) (B : Option Addr) (lo c : Nat) (l : List (List UInt8)) (hr : Row W lo 1 B l.length (strs l)) (hl : l.length ≤ 1000000) :
  Calls Tryz.prog 45 #[.slice B l.length c,.pointer (some ⟨mp,0,none⟩),.pointer (some ⟨qb,0,none⟩)] W fun e w' => e = .returned (.bool (fastB f most l)) ∧ Below W.heap.size W w':=by
 have HT:=Lib.hid (hT W B lo c l hbl hr hl)
 have HV : Hid (fastB f most l = (decide (0 ≤ f l) && decide (f l ≤ most))):=Lib.hid rfl
 generalize fastB f most l = fv at *
 generalize f l = v at *
 clear hr hT hbl
 go_enter Tryz.func45,Tryz.ntmps45
 go_wp2_with fail
 refine HT.out.mono ?_
 rintro e w1 ⟨rfl,-,hb⟩
 have hq:=hq.below hb
 have q0:=hq.cell 0
 have zq:=hq.lt
 by_cases h0 : 0 ≤ v
 ·have d0 : decide (0 ≤ v) = true:=decide_eq_true h0
  have HV2 : Hid (fv = decide (v ≤ most)):=Lib.hid (by rw [HV.out,d0]; rfl)
  clear h0 HV
  go_wp2_with fail
  go_ret
  exact ⟨by rw [HV2.out]; rfl,hb⟩
 ·have d0 : decide (0 ≤ v) = false:=decide_eq_false h0
  have HV2 : Hid (fv = false):=Lib.hid (by rw [HV.out,d0]; rfl)
  clear h0 HV
  go_wp2_with fail
  go_ret
  exact ⟨by rw [HV2.out]; rfl,hb⟩
theorem fast_any {w2 W : World} {mp qb fb ob : Nat} {most : Int} {f : List (List UInt8) → Int} (hT : TimeOk w2 mp f) (hJ : JL w2 W mp qb fb ob most) (B : Option Addr) (lo c : Nat) (l : List (List UInt8)) (hr : Row W lo 1 B l.length (strs l)) (hl : l.length ≤ 1000000) :
  Calls Tryz.prog 45 #[.slice B l.length c,.pointer (some ⟨mp,0,none⟩),.pointer (some ⟨qb,0,none⟩)] W fun e w' => e = .returned (.bool (fastB f most l)) ∧ Below W.heap.size W w':=fast_any0 hT hJ.b hJ.q B lo c l hr hl
def TryPost (w2 W : World) (mp qb fb ob : Nat) (most : Int) (f : List (List UInt8) → Int) (l : List (List UInt8)) (e : Ending) (w' : World) : Prop :=
 e = .returned (.bool (fastB f most l)) ∧ W.grownBy w' (some ob) ∧ JL w2 w' mp qb fb ob most ∧ OutIs w' ob l
set_option maxHeartbeats 2000000 in
theorem try_any {w2 W : World} {mp qb fb ob : Nat} {most : Int} {f : List (List UInt8) → Int} (hT : TimeOk w2 mp f) (hJ : JL w2 W mp qb fb ob most) (B : Option Addr) (c : Nat) (l : List (List UInt8)) (hr : StR ob W B l) (hl : l.length ≤ 1000000) :
  Calls Tryz.prog 47 #[.slice B l.length c,.pointer (some ⟨ob,0,none⟩),.pointer (some ⟨fb,0,none⟩)] W (TryPost w2 W mp qb fb ob most f l):=by
 have HT:=Lib.hid hT
 have HR:=Lib.hid hr
 clear hr hT
 go_enter Tryz.func47,Tryz.ntmps47
 go_wp2_with fail
 refine (cloneS_any B c 0 l W HR.out.now (by omega)).mono ?_
 rintro e w1 ⟨OA,oc,rfl,ho,hb⟩
 have hJ:=hJ.below hb
 have hg1:=grown_of_below hb (some ob)
 obtain ⟨OA0,on0,oc0,hob⟩:=hJ.o
 have o0:=hob.cell 0
 have fo:=hob.thaw 0
 have zo:=hob.lt
 have hne:=hJ.ne
 have hff:=hJ.f.past ob 0 (.slice OA l.length oc) hne.2
 have hqq:=hJ.q.past ob 0 (.slice OA l.length oc) hne.1
 have hob2 : Blk (w1.setCell ⟨ob,0,none⟩ (.slice OA l.length oc)) ob 31 #[.slice OA l.length oc]:=by simpa using hob.poke 0 (.slice OA l.length oc)
 have ho2:=own_past ho hob (by decide) 0 (.slice OA l.length oc)
 have hg2 : w1.grownBy (w1.setCell ⟨ob,0,none⟩ (.slice OA l.length oc)) (some ob):=grown_poke w1 ob 0 _
 have hbl : Below w2.heap.size w2 (w1.setCell ⟨ob,0,none⟩ (.slice OA l.length oc)):=Below.setCell hJ.b hJ.z _
 have hJ2 : JL w2 (w1.setCell ⟨ob,0,none⟩ (.slice OA l.length oc)) mp qb fb ob most:=⟨hbl,hqq,hff,⟨_,_,_,hob2⟩,hJ.z,hne⟩
 have f0:=hJ2.f.cell 0
 have zf:=hJ2.f.lt
 have HO:=Lib.hid (And.intro hob2 (And.intro ho2 (And.intro (grown_trans' hg1 hg2) hJ2)))
 have HFA:=Lib.hid (fast_any HT.out hJ2 B 0 c l (HR.out _ (grown_trans' hg1 hg2)) hl)
 clear hJ hg1 hob hff hqq hob2 ho2 hg2 hbl hJ2 ho hb
 go_upto_region 2 with (fail)
 generalize w1.setCell ⟨ob,0,none⟩ (.slice OA l.length oc) = w3 at *
 obtain ⟨fv,hfv⟩ : ∃ fv,fv = fastB f most l:=⟨_,rfl⟩
 rw [← hfv] at HFA
 have HFV:=Lib.hid hfv
 clear hfv
 go_wp2_with fail
 refine HFA.out.mono ?_
 rintro e w4 ⟨rfl,hb⟩
 clear f0 zf o0 fo
 go_wp2_with fail
 go_ret
 obtain ⟨a1,a2,a3,a4⟩:=HO.out
 exact ⟨by rw [← HFV.out]; rfl,grown_trans' a3 (grown_of_below hb _),a4.below hb,OA,oc,a1.below hb,row_down0 ((Row.of_own a2).below hb)⟩
def ChPost (w2 W : World) (mp qb fb ob : Nat) (most : Int) (R : Option (List (List UInt8))) (e : Ending) (w' : World) : Prop :=
 e = .returned (.bool R.isSome) ∧ W.grownBy w' (some ob) ∧ JL w2 w' mp qb fb ob most ∧ ∀ x,R = some x → OutIs w' ob x

set_option maxHeartbeats 8000000 in
set_option maxRecDepth 100000 in
theorem choose_any {w2 : World} {mp qb fb ob : Nat} {most : Int} {f : List (List UInt8) → Int} (hT : TimeOk w2 mp f) : ∀ (N : Nat) (l : List (List UInt8)) (many : Nat) (t : List (List UInt8)) (LA TA : Option Addr) (lc tc : Nat) (W : World),l.length = N → l.length ≤ lc → t.length ≤ tc → t.length + l.length ≤ 1000000 → many ≤ 1000000 → (t.length = 0 → TA = none) → JL w2 W mp qb fb ob most → StR ob W LA l → StR ob W TA t →
  Calls Tryz.prog 46 #[.slice LA l.length lc,.int .i64 (many : Int),.slice TA t.length tc,.func (.func 47) #[] #[.pointer (some ⟨ob,0,none⟩),.pointer (some ⟨fb,0,none⟩)]] W (ChPost w2 W mp qb fb ob most ((combos l many t).find? (fastB f most))):=by
 have HT:=Lib.hid hT
 clear hT
 intro N
 induction N using Nat.strongRecOn with
 | ind N ih =>
  intro l many t LA TA lc tc W hN hlc htc htl hmb htn hJ hl ht
  subst hN
  have HST:=Lib.hid (And.intro hl ht)
  clear hl ht
  cases many with
  | zero =>
   have htry:=try_any HT.out hJ TA tc t HST.out.2 (by omega)
   have HV : Hid ((combos l 0 t).find? (fastB f most) = if fastB f most t then some t else none):=Lib.hid (by rw [combos_0]; cases h : fastB f most t <;> simp [h])
   generalize (combos l 0 t).find? (fastB f most) = R at *
   clear ih
   go_enter Tryz.func46,Tryz.ntmps46
   go_wp2_with fail
   refine htry.mono ?_
   rintro e w1 ⟨rfl,hg,hJ1,ho⟩
   obtain ⟨fv,hfv⟩ : ∃ fv,fv = fastB f most t:=⟨_,rfl⟩
   rw [← hfv] at HV ⊢
   clear hfv htry
   go_wp2_with fail
   go_ret
   cases fv with
   | true => exact ⟨by rw [HV.out]; rfl,hg,hJ1,fun x hx => by rw [HV.out] at hx; injection hx with hx; subst hx; exact ho⟩
   | false => exact ⟨by rw [HV.out]; rfl,hg,hJ1,fun x hx => by rw [HV.out] at hx; cases hx⟩
  | succ k =>
   have e0 : (((k + 1 : Nat) : Int) == 0) = false:=beq_eq_false_iff_ne.2 (by omega)
   have ws : IntKind.i64.wrap (((k + 1 : Nat) : Int) - 1) = (k : Int):=by rw [IntWalk.i64_in _ ⟨by omega,by omega⟩]; omega
   obtain ⟨km,hkm⟩ : ∃ km : Int,km = ((k + 1 : Nat) : Int):=⟨_,rfl⟩
   rw [← hkm] at e0 ws ⊢
   have hz:=hJ.z
   clear hkm
   go_enter Tryz.func46,Tryz.ntmps46
   go_wp2_with fail
   go_loopw [18] (fun v wr => ∃ i : Nat,i ≤ l.length ∧ v = .int .i64 i ∧ W.grownBy wr (some ob) ∧ JL w2 wr mp qb fb ob most ∧ Hid ((combos l (k + 1) t).find? (fastB f most) = (combos (l.drop i) (k + 1) t).find? (fastB f most))) (fun v _ => l.length - (intOf v).toNat)
   case atStart => exact ⟨0,Nat.zero_le _,rfl,World.grownBy.refl _ _,hJ,Lib.hid rfl⟩
   case round =>
    clear hJ
    obtain ⟨i,hi,rfl,hg,hJ,HC⟩:=hrel
    by_cases hlt : i < l.length
    ·obtain ⟨lb,loff,rfl,hlb,hls⟩:=strs_at (HST.out.1.on hg).now hlt
     have l0:=hls i hlt
     have HCD:=Lib.hid (combos_drop l k t hlt)
     have HSS : Hid (∀ V,Below wr.heap.size wr V → JL w2 V mp qb fb ob most ∧ StR ob V (some ⟨lb,loff,none⟩) l ∧ StR ob V TA t):=Lib.hid (fun V hV => ⟨hJ.below hV,HST.out.1.on (grown_trans' hg (grown_of_below hV _)),HST.out.2.on (grown_trans' hg (grown_of_below hV _))⟩)
     have HOZ : Hid (ob < wr.heap.size):=Lib.hid (let ⟨_,_,_,d⟩:=hJ.o; d.lt)
     simp only [encStr] at l0
     generalize l[i] = s at *
     clear hls
     have hi0 : (0 : Int) ≤ (i : Int) + 1:=by omega
     have hi1 : (i : Int) + 1 ≤ (l.length : Int):=by omega
     have wi : IntKind.i64.wrap ((i : Int) + 1) = (i : Int) + 1:=IntWalk.i64_in _ ⟨by omega,by omega⟩
     have HRS : Hid (∃ (RA : Option Addr) (RC : Nat),(if lc = i + 1 then RA = some ⟨lb,loff,none⟩ ∧ RC = 0 else RA = some ⟨lb,loff + (i + 1),none⟩ ∧ RC = lc - (i + 1)) ∧ l.length - (i + 1) ≤ RC ∧ ∀ V,Below wr.heap.size wr V → StR ob V RA (l.drop (i + 1))):=Lib.hid (rest_slice hlc (fun V hV => (HSS.out V hV).2.1))
     clear hlc
     go_upto_region 6 with (fail)
     clear l0 hlb
     go_cut [39] from 23 to 39 (fun v wx => ∃ R1,v = .bool (Option.isSome R1) ∧ wr.grownBy wx (some ob) ∧ JL w2 wx mp qb fb ob most ∧ (∀ x,R1 = some x → OutIs wx ob x) ∧ Hid (R1 = (combos (l.drop (i + 1)) k (t ++ [s])).find? (fastB f most)))
     case first =>
      generalize wr = Z at *
      have hZ : Below Z.heap.size Z Z.drew:=below_drewN' (Below.refl _ _) 1
      clear hJ hg HC HCD
      obtain ⟨RA,RC,hRS,hRC,hSD⟩:=HRS.out
      have HSD:=Lib.hid hSD
      clear hSD
      by_cases hcap : lc = i + 1
      ·rw [if_pos hcap] at hRS
       obtain ⟨rfl,rfl⟩:=hRS
       subst hcap
       go_wp2_with fail
       refine wp_region_held_drew (S:=(fun _ => True)) (by kernel_rfl) (trivial) (fun hHeld => ?_)
       (refine wpAnyH_take (i:=0) (v:=?_) (by (simp only [Q0,Q2]; rfl)) (by kernel_rfl) (by kernel_rfl) (by kernel_rfl) (by exact fun _ _ _ h => h) (Or.inl ⟨by rfl,?_⟩) (by assumption) ?_; (rotate_left 1; (intro w hSw; (try dsimp only at hSw); go_simp); (try with_reducible rfl)); (try simp only [Act.put,Q3,Q4,Q5]))
       (refine wpAnyH_take (i:=1) (v:=?_) (by (simp only [Q0,Q1,Q2]; rfl)) (by kernel_rfl) (by kernel_rfl) (by kernel_rfl) (by exact fun _ _ _ h => h) (Or.inl ⟨by rfl,?_⟩) (by assumption) ?_; (rotate_left 1; (intro w hSw; (try dsimp only at hSw); go_simp); (try with_reducible rfl)); (try simp only [Act.put,Q3,Q4,Q5]))
       (refine wpAnyH_take (i:=2) (v:=?_) (by (simp only [Q0,Q1,Q2]; rfl)) (by kernel_rfl) (by kernel_rfl) (by kernel_rfl) (by exact fun _ _ _ h => h) (Or.inl ⟨by rfl,?_⟩) (by assumption) ?_; (rotate_left 1; (intro w hSw; (try dsimp only at hSw); go_simp); (try with_reducible rfl)); (try simp only [Act.put,Q3,Q4,Q5]))
       (refine wpAnyH_take (i:=3) (v:=?_) (by (simp only [Q0,Q1,Q2]; rfl)) (by kernel_rfl) (by kernel_rfl) (by kernel_rfl) (by exact fun _ _ _ h => h) (Or.inl ⟨by rfl,?_⟩) (by assumption) ?_; (rotate_left 1; (intro w hSw; (try dsimp only at hSw); go_simp); (try with_reducible rfl)); (try simp only [Act.put,Q3,Q4,Q5]))
       (refine wpAnyH_take (i:=4) (v:=?_) (by (simp only [Q0,Q1,Q2]; rfl)) (by kernel_rfl) (by kernel_rfl) (by kernel_rfl) (by exact fun _ _ _ h => h) (Or.inl ⟨by rfl,?_⟩) (by assumption) ?_; (rotate_left 1; (intro w hSw; (try dsimp only at hSw); go_simp); (try with_reducible rfl)); (try simp only [Act.put,Q3,Q4,Q5]))
       (refine wpAnyH_take (i:=5) (v:=?_) (by (simp only [Q0,Q1,Q2]; rfl)) (by kernel_rfl) (by kernel_rfl) (by kernel_rfl) (by exact fun _ _ _ h => h) (Or.inl ⟨by rfl,?_⟩) (by assumption) ?_; (rotate_left 1; (intro w hSw; (try dsimp only at hSw); go_simp); (try with_reducible rfl)); (try simp only [Act.put,Q3,Q4,Q5]))
       (refine wpAnyH_take (i:=6) (v:=?_) (by (simp only [Q0,Q1,Q2]; rfl)) (by kernel_rfl) (by kernel_rfl) (by kernel_rfl) (by exact fun _ _ _ h => h) (Or.inl ⟨by rfl,?_⟩) (by assumption) ?_; (rotate_left 1; (intro w hSw; (try dsimp only at hSw); go_simp); (try with_reducible rfl)); (try simp only [Act.put,Q3,Q4,Q5]))
       (refine wpAnyH_take (i:=7) (v:=?_) (by (simp only [Q0,Q1,Q2]; rfl)) (by kernel_rfl) (by kernel_rfl) (by kernel_rfl) (by exact fun _ _ _ h => h) (Or.inl ⟨by rfl,?_⟩) (by assumption) ?_; (rotate_left 1; (intro w hSw; (try dsimp only at hSw); go_simp); (try with_reducible rfl)); (try simp only [Act.put,Q3,Q4,Q5]))
       (refine wpAnyH_take (i:=9) (v:=?_) (by (simp only [Q0,Q1,Q2]; rfl)) (by kernel_rfl) (by kernel_rfl) (by kernel_rfl) (by exact fun _ _ _ h => h) (Or.inl ⟨by rfl,?_⟩) (by assumption) ?_; (rotate_left 1; (intro w hSw; (try dsimp only at hSw); go_simp); (try with_reducible rfl)); (try simp only [Act.put,Q3,Q4,Q5]))
       (refine wpAnyH_take (i:=12) (v:=?_) (by (simp only [Q0,Q1,Q2]; rfl)) (by kernel_rfl) (by kernel_rfl) (by kernel_rfl) (by exact fun _ _ _ h => h) (Or.inl ⟨by rfl,?_⟩) (by assumption) ?_; (rotate_left 1; (intro w hSw; (try dsimp only at hSw); go_simp); (try with_reducible rfl)); (try simp only [Act.put,Q3,Q4,Q5]))
       (refine wpAnyH_take (i:=15) (v:=?_) (by (simp only [Q0,Q1,Q2]; rfl)) (by kernel_rfl) (by kernel_rfl) (by kernel_rfl) (by exact fun _ _ _ h => h) (Or.inl ⟨by rfl,?_⟩) (by assumption) ?_; (rotate_left 1; (intro w hSw; (try dsimp only at hSw); go_simp); (try with_reducible rfl)); (try simp only [Act.put,Q3,Q4,Q5]))
       refine wpAnyH_ready (rs:=[8,10,13]) (by kernel_rfl) (by simp) ?_
       refine AllReadyH.cons rfl (fun K hK => ?_) (AllReadyH.cons rfl (fun K hK => ?_) (AllReadyH.cons rfl (fun K hK => ?_) AllReadyH.nil))
       case refine_1 =>
        go_simp
        refine hK.out _ _ (trivial) (fun hHeld => ?_)
        clear hK K
        (try simp only [Act.put,Q3,Q4,Q5])
        refine wpAnyH_ready (rs:=[10,13]) (by kernel_rfl) (by simp) ?_
        refine AllReadyH.cons rfl (fun K hK => ?_) (AllReadyH.cons rfl (fun K hK => ?_) AllReadyH.nil)
        case refine_1 =>
         go_simp
         refine hK.out _ _ (trivial) (fun hHeld => ?_)
         clear hK K
         (try simp only [Act.put,Q3,Q4,Q5])
         (refine wpAnyH_take (i:=11) (v:=?_) (by (simp only [Q0,Q1,Q2]; rfl)) (by kernel_rfl) (by kernel_rfl) (by kernel_rfl) (by exact fun _ _ _ h => h) (Or.inl ⟨by rfl,?_⟩) (by assumption) ?_; (rotate_left 1; (intro w hSw; (try dsimp only at hSw); go_simp); (try with_reducible rfl)); (try simp only [Act.put,Q3,Q4,Q5]))
         refine wpAnyH_ready (rs:=[13]) (by kernel_rfl) (by simp) ?_
         refine AllReadyH.cons rfl (fun K hK => ?_) AllReadyH.nil
         go_simp
         have hk : Blk (Z.drew.alloc (.cells #[.string ⟨s.toArray⟩] 9)) Z.heap.size 9 #[.string ⟨s.toArray⟩]:=Blk.at_ _ (by simp)
         have hZ:=hZ.alloc hZ.size (.cells #[.string ⟨s.toArray⟩] 9)
         refine hK.out _ _ (trivial) (fun hHeld => ?_)
         clear hK K
         (try simp only [Act.put,Q3,Q4,Q5])
         refine wpAnyH_ready (rs:=[14]) (by kernel_rfl) (by simp) ?_
         refine AllReadyH.cons rfl (fun K hK => ?_) AllReadyH.nil
         refine step_appR (lo0:=0) (lo:=0) (n:=t.length) (xs:=strs t) _ rfl _ _ ty_strsL rfl (HSS.out _ hZ).2.2.now htn rfl (Row.lit (n:=1) (size:=1) hk (Nat.zero_le _) rfl) (by decide) rfl rfl (by omega) (by omega) ?_
         intro A5 c5 w5 hd5 g5
         have hZ:=hZ.trans ((below_none g5).mono hZ.size)
         have HD5 : Hid (w5.ownsRow (Z.drew.alloc (.cells #[.string ⟨s.toArray⟩] 9)).heap.size 9 1 (.slice A5 (t ++ [s]).length c5) (t ++ [s]).length (strs (t ++ [s]))):=Lib.hid (by simpa [strs,encStr] using hd5)
         have HOB : Hid (ob < (Z.drew.alloc (.cells #[.string ⟨s.toArray⟩] 9)).heap.size):=Lib.hid (by have:=HOZ.out; simp; omega)
         refine hK.out _ _ (trivial) (fun hHeld => ?_)
         clear hK K
         (try simp only [Act.put,Q3,Q4,Q5])
         refine wpAnyH_ready (rs:=[16]) (by kernel_rfl) (by simp) ?_
         refine AllReadyH.cons rfl (fun K hK => ?_) AllReadyH.nil
         go_simp
         go_at_call 46
         have hst5 : StR ob w5 A5 (t ++ [s]):=StR.of (Row.of_own HD5.out) (fun a ha => by
          have h1:=(HD5.out.lt a.block (by rw [obk_is,ha]; rfl)).1
          have h2:=HOB.out
          omega)
         have hcl : (t ++ [s]).length ≤ c5:=own_capY HD5.out
         have hrec:=ih (l.length - (i + 1)) (by omega) (l.drop (i + 1)) k (t ++ [s]) _ A5 _ c5 w5 (by simp) (by rw [List.length_drop]; exact hRC) hcl (by rw [List.length_append,List.length_drop]; simp; omega) (by omega) (by simp) (HSS.out _ hZ).1 (HSD.out _ hZ) hst5
         rw [show (l.drop (i + 1)).length = l.length - (i + 1) by simp,show (t ++ [s]).length = t.length + 1 by simp] at hrec
         refine hrec.mono ?_
         rintro e w6 ⟨rfl,hg6,hJ6,hR6⟩
         clear hrec
         go_wp2_with fail
         refine hK.out _ _ (trivial) (fun hHeld => ?_)
         clear hK K
         (try simp only [Act.put,Q3,Q4,Q5])
         refine wpAnyH_done (by kernel_rfl) ?_ _
         go_wp2_with fail
         go_meet
         exact ⟨_,rfl,grown_trans' (grown_of_below hZ _) hg6,hJ6,hR6,Lib.hid rfl⟩
        case refine_2 =>
         go_simp
         have hk : Blk (Z.drew.alloc (.cells #[.string ⟨s.toArray⟩] 9)) Z.heap.size 9 #[.string ⟨s.toArray⟩]:=Blk.at_ _ (by simp)
         have hZ:=hZ.alloc hZ.size (.cells #[.string ⟨s.toArray⟩] 9)
         refine hK.out _ _ (trivial) (fun hHeld => ?_)
         clear hK K
         (try simp only [Act.put,Q3,Q4,Q5])
         refine wpAnyH_ready (rs:=[10]) (by kernel_rfl) (by simp) ?_
         refine AllReadyH.cons rfl (fun K hK => ?_) AllReadyH.nil
         go_simp
         refine hK.out _ _ (trivial) (fun hHeld => ?_)
         clear hK K
         (try simp only [Act.put,Q3,Q4,Q5])
         (refine wpAnyH_take (i:=11) (v:=?_) (by (simp only [Q0,Q1,Q2]; rfl)) (by kernel_rfl) (by kernel_rfl) (by kernel_rfl) (by exact fun _ _ _ h => h) (Or.inl ⟨by rfl,?_⟩) (by assumption) ?_; (rotate_left 1; (intro w hSw; (try dsimp only at hSw); go_simp); (try with_reducible rfl)); (try simp only [Act.put,Q3,Q4,Q5]))
         refine wpAnyH_ready (rs:=[14]) (by kernel_rfl) (by simp) ?_
         refine AllReadyH.cons rfl (fun K hK => ?_) AllReadyH.nil
         refine step_appR (lo0:=0) (lo:=0) (n:=t.length) (xs:=strs t) _ rfl _ _ ty_strsL rfl (HSS.out _ hZ).2.2.now htn rfl (Row.lit (n:=1) (size:=1) hk (Nat.zero_le _) rfl) (by decide) rfl rfl (by omega) (by omega) ?_
         intro A5 c5 w5 hd5 g5
         have hZ:=hZ.trans ((below_none g5).mono hZ.size)
         have HD5 : Hid (w5.ownsRow (Z.drew.alloc (.cells #[.string ⟨s.toArray⟩] 9)).heap.size 9 1 (.slice A5 (t ++ [s]).length c5) (t ++ [s]).length (strs (t ++ [s]))):=Lib.hid (by simpa [strs,encStr] using hd5)
         have HOB : Hid (ob < (Z.drew.alloc (.cells #[.string ⟨s.toArray⟩] 9)).heap.size):=Lib.hid (by have:=HOZ.out; simp; omega)
         refine hK.out _ _ (trivial) (fun hHeld => ?_)
         clear hK K
         (try simp only [Act.put,Q3,Q4,Q5])
         refine wpAnyH_ready (rs:=[16]) (by kernel_rfl) (by simp) ?_
         refine AllReadyH.cons rfl (fun K hK => ?_) AllReadyH.nil
         go_simp
         go_at_call 46
         have hst5 : StR ob w5 A5 (t ++ [s]):=StR.of (Row.of_own HD5.out) (fun a ha => by
          have h1:=(HD5.out.lt a.block (by rw [obk_is,ha]; rfl)).1
          have h2:=HOB.out
          omega)
         have hcl : (t ++ [s]).length ≤ c5:=own_capY HD5.out
         have hrec:=ih (l.length - (i + 1)) (by omega) (l.drop (i + 1)) k (t ++ [s]) _ A5 _ c5 w5 (by simp) (by rw [List.length_drop]; exact hRC) hcl (by rw [List.length_append,List.length_drop]; simp; omega) (by omega) (by simp) (HSS.out _ hZ).1 (HSD.out _ hZ) hst5
         rw [show (l.drop (i + 1)).length = l.length - (i + 1) by simp,show (t ++ [s]).length = t.length + 1 by simp] at hrec
         refine hrec.mono ?_
         rintro e w6 ⟨rfl,hg6,hJ6,hR6⟩
         clear hrec
         go_wp2_with fail
         refine hK.out _ _ (trivial) (fun hHeld => ?_)
         clear hK K
         (try simp only [Act.put,Q3,Q4,Q5])
         refine wpAnyH_done (by kernel_rfl) ?_ _
         go_wp2_with fail
         go_meet
         exact ⟨_,rfl,grown_trans' (grown_of_below hZ _) hg6,hJ6,hR6,Lib.hid rfl⟩
       case refine_2 =>
        go_simp
        refine hK.out _ _ (trivial) (fun hHeld => ?_)
        clear hK K
        (try simp only [Act.put,Q3,Q4,Q5])
        refine wpAnyH_ready (rs:=[8,13]) (by kernel_rfl) (by simp) ?_
        refine AllReadyH.cons rfl (fun K hK => ?_) (AllReadyH.cons rfl (fun K hK => ?_) AllReadyH.nil)
        case refine_1 =>
         go_simp
         refine hK.out _ _ (trivial) (fun hHeld => ?_)
         clear hK K
         (try simp only [Act.put,Q3,Q4,Q5])
         (refine wpAnyH_take (i:=11) (v:=?_) (by (simp only [Q0,Q1,Q2]; rfl)) (by kernel_rfl) (by kernel_rfl) (by kernel_rfl) (by exact fun _ _ _ h => h) (Or.inl ⟨by rfl,?_⟩) (by assumption) ?_; (rotate_left 1; (intro w hSw; (try dsimp only at hSw); go_simp); (try with_reducible rfl)); (try simp only [Act.put,Q3,Q4,Q5]))
         refine wpAnyH_ready (rs:=[13]) (by kernel_rfl) (by simp) ?_
         refine AllReadyH.cons rfl (fun K hK => ?_) AllReadyH.nil
         go_simp
         have hk : Blk (Z.drew.alloc (.cells #[.string ⟨s.toArray⟩] 9)) Z.heap.size 9 #[.string ⟨s.toArray⟩]:=Blk.at_ _ (by simp)
         have hZ:=hZ.alloc hZ.size (.cells #[.string ⟨s.toArray⟩] 9)
         refine hK.out _ _ (trivial) (fun hHeld => ?_)
         clear hK K
         (try simp only [Act.put,Q3,Q4,Q5])
         refine wpAnyH_ready (rs:=[14]) (by kernel_rfl) (by simp) ?_
         refine AllReadyH.cons rfl (fun K hK => ?_) AllReadyH.nil
         refine step_appR (lo0:=0) (lo:=0) (n:=t.length) (xs:=strs t) _ rfl _ _ ty_strsL rfl (HSS.out _ hZ).2.2.now htn rfl (Row.lit (n:=1) (size:=1) hk (Nat.zero_le _) rfl) (by decide) rfl rfl (by omega) (by omega) ?_
         intro A5 c5 w5 hd5 g5
         have hZ:=hZ.trans ((below_none g5).mono hZ.size)
         have HD5 : Hid (w5.ownsRow (Z.drew.alloc (.cells #[.string ⟨s.toArray⟩] 9)).heap.size 9 1 (.slice A5 (t ++ [s]).length c5) (t ++ [s]).length (strs (t ++ [s]))):=Lib.hid (by simpa [strs,encStr] using hd5)
         have HOB : Hid (ob < (Z.drew.alloc (.cells #[.string ⟨s.toArray⟩] 9)).heap.size):=Lib.hid (by have:=HOZ.out; simp; omega)
         refine hK.out _ _ (trivial) (fun hHeld => ?_)
         clear hK K
         (try simp only [Act.put,Q3,Q4,Q5])
         refine wpAnyH_ready (rs:=[16]) (by kernel_rfl) (by simp) ?_
         refine AllReadyH.cons rfl (fun K hK => ?_) AllReadyH.nil
         go_simp
         go_at_call 46
         have hst5 : StR ob w5 A5 (t ++ [s]):=StR.of (Row.of_own HD5.out) (fun a ha => by
          have h1:=(HD5.out.lt a.block (by rw [obk_is,ha]; rfl)).1
          have h2:=HOB.out
          omega)
         have hcl : (t ++ [s]).length ≤ c5:=own_capY HD5.out
         have hrec:=ih (l.length - (i + 1)) (by omega) (l.drop (i + 1)) k (t ++ [s]) _ A5 _ c5 w5 (by simp) (by rw [List.length_drop]; exact hRC) hcl (by rw [List.length_append,List.length_drop]; simp; omega) (by omega) (by simp) (HSS.out _ hZ).1 (HSD.out _ hZ) hst5
         rw [show (l.drop (i + 1)).length = l.length - (i + 1) by simp,show (t ++ [s]).length = t.length + 1 by simp] at hrec
         refine hrec.mono ?_
         rintro e w6 ⟨rfl,hg6,hJ6,hR6⟩
         clear hrec
         go_wp2_with fail
         refine hK.out _ _ (trivial) (fun hHeld => ?_)
         clear hK K
         (try simp only [Act.put,Q3,Q4,Q5])
         refine wpAnyH_done (by kernel_rfl) ?_ _
         go_wp2_with fail
         go_meet
         exact ⟨_,rfl,grown_trans' (grown_of_below hZ _) hg6,hJ6,hR6,Lib.hid rfl⟩
        case refine_2 =>
         go_simp
         have hk : Blk (Z.drew.alloc (.cells #[.string ⟨s.toArray⟩] 9)) Z.heap.size 9 #[.string ⟨s.toArray⟩]:=Blk.at_ _ (by simp)
         have hZ:=hZ.alloc hZ.size (.cells #[.string ⟨s.toArray⟩] 9)
         refine hK.out _ _ (trivial) (fun hHeld => ?_)
         clear hK K
         (try simp only [Act.put,Q3,Q4,Q5])
         refine wpAnyH_ready (rs:=[8]) (by kernel_rfl) (by simp) ?_
         refine AllReadyH.cons rfl (fun K hK => ?_) AllReadyH.nil
         go_simp
         refine hK.out _ _ (trivial) (fun hHeld => ?_)
         clear hK K
         (try simp only [Act.put,Q3,Q4,Q5])
         (refine wpAnyH_take (i:=11) (v:=?_) (by (simp only [Q0,Q1,Q2]; rfl)) (by kernel_rfl) (by kernel_rfl) (by kernel_rfl) (by exact fun _ _ _ h => h) (Or.inl ⟨by rfl,?_⟩) (by assumption) ?_; (rotate_left 1; (intro w hSw; (try dsimp only at hSw); go_simp); (try with_reducible rfl)); (try simp only [Act.put,Q3,Q4,Q5]))
         refine wpAnyH_ready (rs:=[14]) (by kernel_rfl) (by simp) ?_
         refine AllReadyH.cons rfl (fun K hK => ?_) AllReadyH.nil
         refine step_appR (lo0:=0) (lo:=0) (n:=t.length) (xs:=strs t) _ rfl _ _ ty_strsL rfl (HSS.out _ hZ).2.2.now htn rfl (Row.lit (n:=1) (size:=1) hk (Nat.zero_le _) rfl) (by decide) rfl rfl (by omega) (by omega) ?_
         intro A5 c5 w5 hd5 g5
         have hZ:=hZ.trans ((below_none g5).mono hZ.size)
         have HD5 : Hid (w5.ownsRow (Z.drew.alloc (.cells #[.string ⟨s.toArray⟩] 9)).heap.size 9 1 (.slice A5 (t ++ [s]).length c5) (t ++ [s]).length (strs (t ++ [s]))):=Lib.hid (by simpa [strs,encStr] using hd5)
         have HOB : Hid (ob < (Z.drew.alloc (.cells #[.string ⟨s.toArray⟩] 9)).heap.size):=Lib.hid (by have:=HOZ.out; simp; omega)
         refine hK.out _ _ (trivial) (fun hHeld => ?_)
         clear hK K
         (try simp only [Act.put,Q3,Q4,Q5])
         refine wpAnyH_ready (rs:=[16]) (by kernel_rfl) (by simp) ?_
         refine AllReadyH.cons rfl (fun K hK => ?_) AllReadyH.nil
         go_simp
         go_at_call 46
         have hst5 : StR ob w5 A5 (t ++ [s]):=StR.of (Row.of_own HD5.out) (fun a ha => by
          have h1:=(HD5.out.lt a.block (by rw [obk_is,ha]; rfl)).1
          have h2:=HOB.out
          omega)
         have hcl : (t ++ [s]).length ≤ c5:=own_capY HD5.out
         have hrec:=ih (l.length - (i + 1)) (by omega) (l.drop (i + 1)) k (t ++ [s]) _ A5 _ c5 w5 (by simp) (by rw [List.length_drop]; exact hRC) hcl (by rw [List.length_append,List.length_drop]; simp; omega) (by omega) (by simp) (HSS.out _ hZ).1 (HSD.out _ hZ) hst5
         rw [show (l.drop (i + 1)).length = l.length - (i + 1) by simp,show (t ++ [s]).length = t.length + 1 by simp] at hrec
         refine hrec.mono ?_
         rintro e w6 ⟨rfl,hg6,hJ6,hR6⟩
         clear hrec
         go_wp2_with fail
         refine hK.out _ _ (trivial) (fun hHeld => ?_)
         clear hK K
         (try simp only [Act.put,Q3,Q4,Q5])
         refine wpAnyH_done (by kernel_rfl) ?_ _
         go_wp2_with fail
         go_meet
         exact ⟨_,rfl,grown_trans' (grown_of_below hZ _) hg6,hJ6,hR6,Lib.hid rfl⟩
       case refine_3 =>
        go_simp
        have hk : Blk (Z.drew.alloc (.cells #[.string ⟨s.toArray⟩] 9)) Z.heap.size 9 #[.string ⟨s.toArray⟩]:=Blk.at_ _ (by simp)
        have hZ:=hZ.alloc hZ.size (.cells #[.string ⟨s.toArray⟩] 9)
        refine hK.out _ _ (trivial) (fun hHeld => ?_)
        clear hK K
        (try simp only [Act.put,Q3,Q4,Q5])
        refine wpAnyH_ready (rs:=[8,10]) (by kernel_rfl) (by simp) ?_
        refine AllReadyH.cons rfl (fun K hK => ?_) (AllReadyH.cons rfl (fun K hK => ?_) AllReadyH.nil)
        case refine_1 =>
         go_simp
         refine hK.out _ _ (trivial) (fun hHeld => ?_)
         clear hK K
         (try simp only [Act.put,Q3,Q4,Q5])
         refine wpAnyH_ready (rs:=[10]) (by kernel_rfl) (by simp) ?_
         refine AllReadyH.cons rfl (fun K hK => ?_) AllReadyH.nil
         go_simp
         refine hK.out _ _ (trivial) (fun hHeld => ?_)
         clear hK K
         (try simp only [Act.put,Q3,Q4,Q5])
         (refine wpAnyH_take (i:=11) (v:=?_) (by (simp only [Q0,Q1,Q2]; rfl)) (by kernel_rfl) (by kernel_rfl) (by kernel_rfl) (by exact fun _ _ _ h => h) (Or.inl ⟨by rfl,?_⟩) (by assumption) ?_; (rotate_left 1; (intro w hSw; (try dsimp only at hSw); go_simp); (try with_reducible rfl)); (try simp only [Act.put,Q3,Q4,Q5]))
         refine wpAnyH_ready (rs:=[14]) (by kernel_rfl) (by simp) ?_
         refine AllReadyH.cons rfl (fun K hK => ?_) AllReadyH.nil
         refine step_appR (lo0:=0) (lo:=0) (n:=t.length) (xs:=strs t) _ rfl _ _ ty_strsL rfl (HSS.out _ hZ).2.2.now htn rfl (Row.lit (n:=1) (size:=1) hk (Nat.zero_le _) rfl) (by decide) rfl rfl (by omega) (by omega) ?_
         intro A5 c5 w5 hd5 g5
         have hZ:=hZ.trans ((below_none g5).mono hZ.size)
         have HD5 : Hid (w5.ownsRow (Z.drew.alloc (.cells #[.string ⟨s.toArray⟩] 9)).heap.size 9 1 (.slice A5 (t ++ [s]).length c5) (t ++ [s]).length (strs (t ++ [s]))):=Lib.hid (by simpa [strs,encStr] using hd5)
         have HOB : Hid (ob < (Z.drew.alloc (.cells #[.string ⟨s.toArray⟩] 9)).heap.size):=Lib.hid (by have:=HOZ.out; simp; omega)
         refine hK.out _ _ (trivial) (fun hHeld => ?_)
         clear hK K
         (try simp only [Act.put,Q3,Q4,Q5])
         refine wpAnyH_ready (rs:=[16]) (by kernel_rfl) (by simp) ?_
         refine AllReadyH.cons rfl (fun K hK => ?_) AllReadyH.nil
         go_simp
         go_at_call 46
         have hst5 : StR ob w5 A5 (t ++ [s]):=StR.of (Row.of_own HD5.out) (fun a ha => by
          have h1:=(HD5.out.lt a.block (by rw [obk_is,ha]; rfl)).1
          have h2:=HOB.out
          omega)
         have hcl : (t ++ [s]).length ≤ c5:=own_capY HD5.out
         have hrec:=ih (l.length - (i + 1)) (by omega) (l.drop (i + 1)) k (t ++ [s]) _ A5 _ c5 w5 (by simp) (by rw [List.length_drop]; exact hRC) hcl (by rw [List.length_append,List.length_drop]; simp; omega) (by omega) (by simp) (HSS.out _ hZ).1 (HSD.out _ hZ) hst5
         rw [show (l.drop (i + 1)).length = l.length - (i + 1) by simp,show (t ++ [s]).length = t.length + 1 by simp] at hrec
         refine hrec.mono ?_
         rintro e w6 ⟨rfl,hg6,hJ6,hR6⟩
         clear hrec
         go_wp2_with fail
         refine hK.out _ _ (trivial) (fun hHeld => ?_)
         clear hK K
         (try simp only [Act.put,Q3,Q4,Q5])
         refine wpAnyH_done (by kernel_rfl) ?_ _
         go_wp2_with fail
         go_meet
         exact ⟨_,rfl,grown_trans' (grown_of_below hZ _) hg6,hJ6,hR6,Lib.hid rfl⟩
        case refine_2 =>
         go_simp
         refine hK.out _ _ (trivial) (fun hHeld => ?_)
         clear hK K
         (try simp only [Act.put,Q3,Q4,Q5])
         refine wpAnyH_ready (rs:=[8]) (by kernel_rfl) (by simp) ?_
         refine AllReadyH.cons rfl (fun K hK => ?_) AllReadyH.nil
         go_simp
         refine hK.out _ _ (trivial) (fun hHeld => ?_)
         clear hK K
         (try simp only [Act.put,Q3,Q4,Q5])
         (refine wpAnyH_take (i:=11) (v:=?_) (by (simp only [Q0,Q1,Q2]; rfl)) (by kernel_rfl) (by kernel_rfl) (by kernel_rfl) (by exact fun _ _ _ h => h) (Or.inl ⟨by rfl,?_⟩) (by assumption) ?_; (rotate_left 1; (intro w hSw; (try dsimp only at hSw); go_simp); (try with_reducible rfl)); (try simp only [Act.put,Q3,Q4,Q5]))
         refine wpAnyH_ready (rs:=[14]) (by kernel_rfl) (by simp) ?_
         refine AllReadyH.cons rfl (fun K hK => ?_) AllReadyH.nil
         refine step_appR (lo0:=0) (lo:=0) (n:=t.length) (xs:=strs t) _ rfl _ _ ty_strsL rfl (HSS.out _ hZ).2.2.now htn rfl (Row.lit (n:=1) (size:=1) hk (Nat.zero_le _) rfl) (by decide) rfl rfl (by omega) (by omega) ?_
         intro A5 c5 w5 hd5 g5
         have hZ:=hZ.trans ((below_none g5).mono hZ.size)
         have HD5 : Hid (w5.ownsRow (Z.drew.alloc (.cells #[.string ⟨s.toArray⟩] 9)).heap.size 9 1 (.slice A5 (t ++ [s]).length c5) (t ++ [s]).length (strs (t ++ [s]))):=Lib.hid (by simpa [strs,encStr] using hd5)
         have HOB : Hid (ob < (Z.drew.alloc (.cells #[.string ⟨s.toArray⟩] 9)).heap.size):=Lib.hid (by have:=HOZ.out; simp; omega)
         refine hK.out _ _ (trivial) (fun hHeld => ?_)
         clear hK K
         (try simp only [Act.put,Q3,Q4,Q5])
         refine wpAnyH_ready (rs:=[16]) (by kernel_rfl) (by simp) ?_
         refine AllReadyH.cons rfl (fun K hK => ?_) AllReadyH.nil
         go_simp
         go_at_call 46
         have hst5 : StR ob w5 A5 (t ++ [s]):=StR.of (Row.of_own HD5.out) (fun a ha => by
          have h1:=(HD5.out.lt a.block (by rw [obk_is,ha]; rfl)).1
          have h2:=HOB.out
          omega)
         have hcl : (t ++ [s]).length ≤ c5:=own_capY HD5.out
         have hrec:=ih (l.length - (i + 1)) (by omega) (l.drop (i + 1)) k (t ++ [s]) _ A5 _ c5 w5 (by simp) (by rw [List.length_drop]; exact hRC) hcl (by rw [List.length_append,List.length_drop]; simp; omega) (by omega) (by simp) (HSS.out _ hZ).1 (HSD.out _ hZ) hst5
         rw [show (l.drop (i + 1)).length = l.length - (i + 1) by simp,show (t ++ [s]).length = t.length + 1 by simp] at hrec
         refine hrec.mono ?_
         rintro e w6 ⟨rfl,hg6,hJ6,hR6⟩
         clear hrec
         go_wp2_with fail
         refine hK.out _ _ (trivial) (fun hHeld => ?_)
         clear hK K
         (try simp only [Act.put,Q3,Q4,Q5])
         refine wpAnyH_done (by kernel_rfl) ?_ _
         go_wp2_with fail
         go_meet
         exact ⟨_,rfl,grown_trans' (grown_of_below hZ _) hg6,hJ6,hR6,Lib.hid rfl⟩
      ·rw [if_neg hcap] at hRS
       obtain ⟨rfl,rfl⟩:=hRS
       go_wp2_with fail
       refine wp_region_held_drew (S:=(fun _ => True)) (by kernel_rfl) (trivial) (fun hHeld => ?_)
       (refine wpAnyH_take (i:=0) (v:=?_) (by (simp only [Q0,Q2]; rfl)) (by kernel_rfl) (by kernel_rfl) (by kernel_rfl) (by exact fun _ _ _ h => h) (Or.inl ⟨by rfl,?_⟩) (by assumption) ?_; (rotate_left 1; (intro w hSw; (try dsimp only at hSw); go_simp); (try with_reducible rfl)); (try simp only [Act.put,Q3,Q4,Q5]))
       (refine wpAnyH_take (i:=1) (v:=?_) (by (simp only [Q0,Q1,Q2]; rfl)) (by kernel_rfl) (by kernel_rfl) (by kernel_rfl) (by exact fun _ _ _ h => h) (Or.inl ⟨by rfl,?_⟩) (by assumption) ?_; (rotate_left 1; (intro w hSw; (try dsimp only at hSw); go_simp); (try with_reducible rfl)); (try simp only [Act.put,Q3,Q4,Q5]))
       (refine wpAnyH_take (i:=2) (v:=?_) (by (simp only [Q0,Q1,Q2]; rfl)) (by kernel_rfl) (by kernel_rfl) (by kernel_rfl) (by exact fun _ _ _ h => h) (Or.inl ⟨by rfl,?_⟩) (by assumption) ?_; (rotate_left 1; (intro w hSw; (try dsimp only at hSw); go_simp); (try with_reducible rfl)); (try simp only [Act.put,Q3,Q4,Q5]))
       (refine wpAnyH_take (i:=3) (v:=?_) (by (simp only [Q0,Q1,Q2]; rfl)) (by kernel_rfl) (by kernel_rfl) (by kernel_rfl) (by exact fun _ _ _ h => h) (Or.inl ⟨by rfl,?_⟩) (by assumption) ?_; (rotate_left 1; (intro w hSw; (try dsimp only at hSw); go_simp); (try with_reducible rfl)); (try simp only [Act.put,Q3,Q4,Q5]))
       (refine wpAnyH_take (i:=4) (v:=?_) (by (simp only [Q0,Q1,Q2]; rfl)) (by kernel_rfl) (by kernel_rfl) (by kernel_rfl) (by exact fun _ _ _ h => h) (Or.inl ⟨by rfl,?_⟩) (by assumption) ?_; (rotate_left 1; (intro w hSw; (try dsimp only at hSw); go_simp); (try with_reducible rfl)); (try simp only [Act.put,Q3,Q4,Q5]))
       (refine wpAnyH_take (i:=5) (v:=?_) (by (simp only [Q0,Q1,Q2]; rfl)) (by kernel_rfl) (by kernel_rfl) (by kernel_rfl) (by exact fun _ _ _ h => h) (Or.inl ⟨by rfl,?_⟩) (by assumption) ?_; (rotate_left 1; (intro w hSw; (try dsimp only at hSw); go_simp); (try with_reducible rfl)); (try simp only [Act.put,Q3,Q4,Q5]))
       (refine wpAnyH_take (i:=6) (v:=?_) (by (simp only [Q0,Q1,Q2]; rfl)) (by kernel_rfl) (by kernel_rfl) (by kernel_rfl) (by exact fun _ _ _ h => h) (Or.inl ⟨by rfl,?_⟩) (by assumption) ?_; (rotate_left 1; (intro w hSw; (try dsimp only at hSw); go_simp); (try with_reducible rfl)); (try simp only [Act.put,Q3,Q4,Q5]))
       (refine wpAnyH_take (i:=7) (v:=?_) (by (simp only [Q0,Q1,Q2]; rfl)) (by kernel_rfl) (by kernel_rfl) (by kernel_rfl) (by exact fun _ _ _ h => h) (Or.inl ⟨by rfl,?_⟩) (by assumption) ?_; (rotate_left 1; (intro w hSw; (try dsimp only at hSw); go_simp); (try with_reducible rfl)); (try simp only [Act.put,Q3,Q4,Q5]))
       (refine wpAnyH_take (i:=9) (v:=?_) (by (simp only [Q0,Q1,Q2]; rfl)) (by kernel_rfl) (by kernel_rfl) (by kernel_rfl) (by exact fun _ _ _ h => h) (Or.inl ⟨by rfl,?_⟩) (by assumption) ?_; (rotate_left 1; (intro w hSw; (try dsimp only at hSw); go_simp); (try with_reducible rfl)); (try simp only [Act.put,Q3,Q4,Q5]))
       (refine wpAnyH_take (i:=12) (v:=?_) (by (simp only [Q0,Q1,Q2]; rfl)) (by kernel_rfl) (by kernel_rfl) (by kernel_rfl) (by exact fun _ _ _ h => h) (Or.inl ⟨by rfl,?_⟩) (by assumption) ?_; (rotate_left 1; (intro w hSw; (try dsimp only at hSw); go_simp); (try with_reducible rfl)); (try simp only [Act.put,Q3,Q4,Q5]))
       (refine wpAnyH_take (i:=15) (v:=?_) (by (simp only [Q0,Q1,Q2]; rfl)) (by kernel_rfl) (by kernel_rfl) (by kernel_rfl) (by exact fun _ _ _ h => h) (Or.inl ⟨by rfl,?_⟩) (by assumption) ?_; (rotate_left 1; (intro w hSw; (try dsimp only at hSw); go_simp); (try with_reducible rfl)); (try simp only [Act.put,Q3,Q4,Q5]))
       refine wpAnyH_ready (rs:=[8,10,13]) (by kernel_rfl) (by simp) ?_
       refine AllReadyH.cons rfl (fun K hK => ?_) (AllReadyH.cons rfl (fun K hK => ?_) (AllReadyH.cons rfl (fun K hK => ?_) AllReadyH.nil))
       case refine_1 =>
        go_simp
        refine hK.out _ _ (trivial) (fun hHeld => ?_)
        clear hK K
        (try simp only [Act.put,Q3,Q4,Q5])
        refine wpAnyH_ready (rs:=[10,13]) (by kernel_rfl) (by simp) ?_
        refine AllReadyH.cons rfl (fun K hK => ?_) (AllReadyH.cons rfl (fun K hK => ?_) AllReadyH.nil)
        case refine_1 =>
         go_simp
         refine hK.out _ _ (trivial) (fun hHeld => ?_)
         clear hK K
         (try simp only [Act.put,Q3,Q4,Q5])
         (refine wpAnyH_take (i:=11) (v:=?_) (by (simp only [Q0,Q1,Q2]; rfl)) (by kernel_rfl) (by kernel_rfl) (by kernel_rfl) (by exact fun _ _ _ h => h) (Or.inl ⟨by rfl,?_⟩) (by assumption) ?_; (rotate_left 1; (intro w hSw; (try dsimp only at hSw); go_simp); (try with_reducible rfl)); (try simp only [Act.put,Q3,Q4,Q5]))
         refine wpAnyH_ready (rs:=[13]) (by kernel_rfl) (by simp) ?_
         refine AllReadyH.cons rfl (fun K hK => ?_) AllReadyH.nil
         go_simp
         have hk : Blk (Z.drew.alloc (.cells #[.string ⟨s.toArray⟩] 9)) Z.heap.size 9 #[.string ⟨s.toArray⟩]:=Blk.at_ _ (by simp)
         have hZ:=hZ.alloc hZ.size (.cells #[.string ⟨s.toArray⟩] 9)
         refine hK.out _ _ (trivial) (fun hHeld => ?_)
         clear hK K
         (try simp only [Act.put,Q3,Q4,Q5])
         refine wpAnyH_ready (rs:=[14]) (by kernel_rfl) (by simp) ?_
         refine AllReadyH.cons rfl (fun K hK => ?_) AllReadyH.nil
         refine step_appR (lo0:=0) (lo:=0) (n:=t.length) (xs:=strs t) _ rfl _ _ ty_strsL rfl (HSS.out _ hZ).2.2.now htn rfl (Row.lit (n:=1) (size:=1) hk (Nat.zero_le _) rfl) (by decide) rfl rfl (by omega) (by omega) ?_
         intro A5 c5 w5 hd5 g5
         have hZ:=hZ.trans ((below_none g5).mono hZ.size)
         have HD5 : Hid (w5.ownsRow (Z.drew.alloc (.cells #[.string ⟨s.toArray⟩] 9)).heap.size 9 1 (.slice A5 (t ++ [s]).length c5) (t ++ [s]).length (strs (t ++ [s]))):=Lib.hid (by simpa [strs,encStr] using hd5)
         have HOB : Hid (ob < (Z.drew.alloc (.cells #[.string ⟨s.toArray⟩] 9)).heap.size):=Lib.hid (by have:=HOZ.out; simp; omega)
         refine hK.out _ _ (trivial) (fun hHeld => ?_)
         clear hK K
         (try simp only [Act.put,Q3,Q4,Q5])
         refine wpAnyH_ready (rs:=[16]) (by kernel_rfl) (by simp) ?_
         refine AllReadyH.cons rfl (fun K hK => ?_) AllReadyH.nil
         go_simp
         go_at_call 46
         have hst5 : StR ob w5 A5 (t ++ [s]):=StR.of (Row.of_own HD5.out) (fun a ha => by
          have h1:=(HD5.out.lt a.block (by rw [obk_is,ha]; rfl)).1
          have h2:=HOB.out
          omega)
         have hcl : (t ++ [s]).length ≤ c5:=own_capY HD5.out
         have hrec:=ih (l.length - (i + 1)) (by omega) (l.drop (i + 1)) k (t ++ [s]) _ A5 _ c5 w5 (by simp) (by rw [List.length_drop]; exact hRC) hcl (by rw [List.length_append,List.length_drop]; simp; omega) (by omega) (by simp) (HSS.out _ hZ).1 (HSD.out _ hZ) hst5
         rw [show (l.drop (i + 1)).length = l.length - (i + 1) by simp,show (t ++ [s]).length = t.length + 1 by simp] at hrec
         refine hrec.mono ?_
         rintro e w6 ⟨rfl,hg6,hJ6,hR6⟩
         clear hrec
         go_wp2_with fail
         refine hK.out _ _ (trivial) (fun hHeld => ?_)
         clear hK K
         (try simp only [Act.put,Q3,Q4,Q5])
         refine wpAnyH_done (by kernel_rfl) ?_ _
         go_wp2_with fail
         go_meet
         exact ⟨_,rfl,grown_trans' (grown_of_below hZ _) hg6,hJ6,hR6,Lib.hid rfl⟩
        case refine_2 =>
         go_simp
         have hk : Blk (Z.drew.alloc (.cells #[.string ⟨s.toArray⟩] 9)) Z.heap.size 9 #[.string ⟨s.toArray⟩]:=Blk.at_ _ (by simp)
         have hZ:=hZ.alloc hZ.size (.cells #[.string ⟨s.toArray⟩] 9)
         refine hK.out _ _ (trivial) (fun hHeld => ?_)
         clear hK K
         (try simp only [Act.put,Q3,Q4,Q5])
         refine wpAnyH_ready (rs:=[10]) (by kernel_rfl) (by simp) ?_
         refine AllReadyH.cons rfl (fun K hK => ?_) AllReadyH.nil
         go_simp
         refine hK.out _ _ (trivial) (fun hHeld => ?_)
         clear hK K
         (try simp only [Act.put,Q3,Q4,Q5])
         (refine wpAnyH_take (i:=11) (v:=?_) (by (simp only [Q0,Q1,Q2]; rfl)) (by kernel_rfl) (by kernel_rfl) (by kernel_rfl) (by exact fun _ _ _ h => h) (Or.inl ⟨by rfl,?_⟩) (by assumption) ?_; (rotate_left 1; (intro w hSw; (try dsimp only at hSw); go_simp); (try with_reducible rfl)); (try simp only [Act.put,Q3,Q4,Q5]))
         refine wpAnyH_ready (rs:=[14]) (by kernel_rfl) (by simp) ?_
         refine AllReadyH.cons rfl (fun K hK => ?_) AllReadyH.nil
         refine step_appR (lo0:=0) (lo:=0) (n:=t.length) (xs:=strs t) _ rfl _ _ ty_strsL rfl (HSS.out _ hZ).2.2.now htn rfl (Row.lit (n:=1) (size:=1) hk (Nat.zero_le _) rfl) (by decide) rfl rfl (by omega) (by omega) ?_
         intro A5 c5 w5 hd5 g5
         have hZ:=hZ.trans ((below_none g5).mono hZ.size)
         have HD5 : Hid (w5.ownsRow (Z.drew.alloc (.cells #[.string ⟨s.toArray⟩] 9)).heap.size 9 1 (.slice A5 (t ++ [s]).length c5) (t ++ [s]).length (strs (t ++ [s]))):=Lib.hid (by simpa [strs,encStr] using hd5)
         have HOB : Hid (ob < (Z.drew.alloc (.cells #[.string ⟨s.toArray⟩] 9)).heap.size):=Lib.hid (by have:=HOZ.out; simp; omega)
         refine hK.out _ _ (trivial) (fun hHeld => ?_)
         clear hK K
         (try simp only [Act.put,Q3,Q4,Q5])
         refine wpAnyH_ready (rs:=[16]) (by kernel_rfl) (by simp) ?_
         refine AllReadyH.cons rfl (fun K hK => ?_) AllReadyH.nil
         go_simp
         go_at_call 46
         have hst5 : StR ob w5 A5 (t ++ [s]):=StR.of (Row.of_own HD5.out) (fun a ha => by
          have h1:=(HD5.out.lt a.block (by rw [obk_is,ha]; rfl)).1
          have h2:=HOB.out
          omega)
         have hcl : (t ++ [s]).length ≤ c5:=own_capY HD5.out
         have hrec:=ih (l.length - (i + 1)) (by omega) (l.drop (i + 1)) k (t ++ [s]) _ A5 _ c5 w5 (by simp) (by rw [List.length_drop]; exact hRC) hcl (by rw [List.length_append,List.length_drop]; simp; omega) (by omega) (by simp) (HSS.out _ hZ).1 (HSD.out _ hZ) hst5
         rw [show (l.drop (i + 1)).length = l.length - (i + 1) by simp,show (t ++ [s]).length = t.length + 1 by simp] at hrec
         refine hrec.mono ?_
         rintro e w6 ⟨rfl,hg6,hJ6,hR6⟩
         clear hrec
         go_wp2_with fail
         refine hK.out _ _ (trivial) (fun hHeld => ?_)
         clear hK K
         (try simp only [Act.put,Q3,Q4,Q5])
         refine wpAnyH_done (by kernel_rfl) ?_ _
         go_wp2_with fail
         go_meet
         exact ⟨_,rfl,grown_trans' (grown_of_below hZ _) hg6,hJ6,hR6,Lib.hid rfl⟩
       case refine_2 =>
        go_simp
        refine hK.out _ _ (trivial) (fun hHeld => ?_)
        clear hK K
        (try simp only [Act.put,Q3,Q4,Q5])
        refine wpAnyH_ready (rs:=[8,13]) (by kernel_rfl) (by simp) ?_
        refine AllReadyH.cons rfl (fun K hK => ?_) (AllReadyH.cons rfl (fun K hK => ?_) AllReadyH.nil)
        case refine_1 =>
         go_simp
         refine hK.out _ _ (trivial) (fun hHeld => ?_)
         clear hK K
         (try simp only [Act.put,Q3,Q4,Q5])
         (refine wpAnyH_take (i:=11) (v:=?_) (by (simp only [Q0,Q1,Q2]; rfl)) (by kernel_rfl) (by kernel_rfl) (by kernel_rfl) (by exact fun _ _ _ h => h) (Or.inl ⟨by rfl,?_⟩) (by assumption) ?_; (rotate_left 1; (intro w hSw; (try dsimp only at hSw); go_simp); (try with_reducible rfl)); (try simp only [Act.put,Q3,Q4,Q5]))
         refine wpAnyH_ready (rs:=[13]) (by kernel_rfl) (by simp) ?_
         refine AllReadyH.cons rfl (fun K hK => ?_) AllReadyH.nil
         go_simp
         have hk : Blk (Z.drew.alloc (.cells #[.string ⟨s.toArray⟩] 9)) Z.heap.size 9 #[.string ⟨s.toArray⟩]:=Blk.at_ _ (by simp)
         have hZ:=hZ.alloc hZ.size (.cells #[.string ⟨s.toArray⟩] 9)
         refine hK.out _ _ (trivial) (fun hHeld => ?_)
         clear hK K
         (try simp only [Act.put,Q3,Q4,Q5])
         refine wpAnyH_ready (rs:=[14]) (by kernel_rfl) (by simp) ?_
         refine AllReadyH.cons rfl (fun K hK => ?_) AllReadyH.nil
         refine step_appR (lo0:=0) (lo:=0) (n:=t.length) (xs:=strs t) _ rfl _ _ ty_strsL rfl (HSS.out _ hZ).2.2.now htn rfl (Row.lit (n:=1) (size:=1) hk (Nat.zero_le _) rfl) (by decide) rfl rfl (by omega) (by omega) ?_
         intro A5 c5 w5 hd5 g5
         have hZ:=hZ.trans ((below_none g5).mono hZ.size)
         have HD5 : Hid (w5.ownsRow (Z.drew.alloc (.cells #[.string ⟨s.toArray⟩] 9)).heap.size 9 1 (.slice A5 (t ++ [s]).length c5) (t ++ [s]).length (strs (t ++ [s]))):=Lib.hid (by simpa [strs,encStr] using hd5)
         have HOB : Hid (ob < (Z.drew.alloc (.cells #[.string ⟨s.toArray⟩] 9)).heap.size):=Lib.hid (by have:=HOZ.out; simp; omega)
         refine hK.out _ _ (trivial) (fun hHeld => ?_)
         clear hK K
         (try simp only [Act.put,Q3,Q4,Q5])
         refine wpAnyH_ready (rs:=[16]) (by kernel_rfl) (by simp) ?_
         refine AllReadyH.cons rfl (fun K hK => ?_) AllReadyH.nil
         go_simp
         go_at_call 46
         have hst5 : StR ob w5 A5 (t ++ [s]):=StR.of (Row.of_own HD5.out) (fun a ha => by
          have h1:=(HD5.out.lt a.block (by rw [obk_is,ha]; rfl)).1
          have h2:=HOB.out
          omega)
         have hcl : (t ++ [s]).length ≤ c5:=own_capY HD5.out
         have hrec:=ih (l.length - (i + 1)) (by omega) (l.drop (i + 1)) k (t ++ [s]) _ A5 _ c5 w5 (by simp) (by rw [List.length_drop]; exact hRC) hcl (by rw [List.length_append,List.length_drop]; simp; omega) (by omega) (by simp) (HSS.out _ hZ).1 (HSD.out _ hZ) hst5
         rw [show (l.drop (i + 1)).length = l.length - (i + 1) by simp,show (t ++ [s]).length = t.length + 1 by simp] at hrec
         refine hrec.mono ?_
         rintro e w6 ⟨rfl,hg6,hJ6,hR6⟩
         clear hrec
         go_wp2_with fail
         refine hK.out _ _ (trivial) (fun hHeld => ?_)
         clear hK K
         (try simp only [Act.put,Q3,Q4,Q5])
         refine wpAnyH_done (by kernel_rfl) ?_ _
         go_wp2_with fail
         go_meet
         exact ⟨_,rfl,grown_trans' (grown_of_below hZ _) hg6,hJ6,hR6,Lib.hid rfl⟩
        case refine_2 =>
         go_simp
         have hk : Blk (Z.drew.alloc (.cells #[.string ⟨s.toArray⟩] 9)) Z.heap.size 9 #[.string ⟨s.toArray⟩]:=Blk.at_ _ (by simp)
         have hZ:=hZ.alloc hZ.size (.cells #[.string ⟨s.toArray⟩] 9)
         refine hK.out _ _ (trivial) (fun hHeld => ?_)
         clear hK K
         (try simp only [Act.put,Q3,Q4,Q5])
         refine wpAnyH_ready (rs:=[8]) (by kernel_rfl) (by simp) ?_
         refine AllReadyH.cons rfl (fun K hK => ?_) AllReadyH.nil
         go_simp
         refine hK.out _ _ (trivial) (fun hHeld => ?_)
         clear hK K
         (try simp only [Act.put,Q3,Q4,Q5])
         (refine wpAnyH_take (i:=11) (v:=?_) (by (simp only [Q0,Q1,Q2]; rfl)) (by kernel_rfl) (by kernel_rfl) (by kernel_rfl) (by exact fun _ _ _ h => h) (Or.inl ⟨by rfl,?_⟩) (by assumption) ?_; (rotate_left 1; (intro w hSw; (try dsimp only at hSw); go_simp); (try with_reducible rfl)); (try simp only [Act.put,Q3,Q4,Q5]))
         refine wpAnyH_ready (rs:=[14]) (by kernel_rfl) (by simp) ?_
         refine AllReadyH.cons rfl (fun K hK => ?_) AllReadyH.nil
         refine step_appR (lo0:=0) (lo:=0) (n:=t.length) (xs:=strs t) _ rfl _ _ ty_strsL rfl (HSS.out _ hZ).2.2.now htn rfl (Row.lit (n:=1) (size:=1) hk (Nat.zero_le _) rfl) (by decide) rfl rfl (by omega) (by omega) ?_
         intro A5 c5 w5 hd5 g5
         have hZ:=hZ.trans ((below_none g5).mono hZ.size)
         have HD5 : Hid (w5.ownsRow (Z.drew.alloc (.cells #[.string ⟨s.toArray⟩] 9)).heap.size 9 1 (.slice A5 (t ++ [s]).length c5) (t ++ [s]).length (strs (t ++ [s]))):=Lib.hid (by simpa [strs,encStr] using hd5)
         have HOB : Hid (ob < (Z.drew.alloc (.cells #[.string ⟨s.toArray⟩] 9)).heap.size):=Lib.hid (by have:=HOZ.out; simp; omega)
         refine hK.out _ _ (trivial) (fun hHeld => ?_)
         clear hK K
         (try simp only [Act.put,Q3,Q4,Q5])
         refine wpAnyH_ready (rs:=[16]) (by kernel_rfl) (by simp) ?_
         refine AllReadyH.cons rfl (fun K hK => ?_) AllReadyH.nil
         go_simp
         go_at_call 46
         have hst5 : StR ob w5 A5 (t ++ [s]):=StR.of (Row.of_own HD5.out) (fun a ha => by
          have h1:=(HD5.out.lt a.block (by rw [obk_is,ha]; rfl)).1
          have h2:=HOB.out
          omega)
         have hcl : (t ++ [s]).length ≤ c5:=own_capY HD5.out
         have hrec:=ih (l.length - (i + 1)) (by omega) (l.drop (i + 1)) k (t ++ [s]) _ A5 _ c5 w5 (by simp) (by rw [List.length_drop]; exact hRC) hcl (by rw [List.length_append,List.length_drop]; simp; omega) (by omega) (by simp) (HSS.out _ hZ).1 (HSD.out _ hZ) hst5
         rw [show (l.drop (i + 1)).length = l.length - (i + 1) by simp,show (t ++ [s]).length = t.length + 1 by simp] at hrec
         refine hrec.mono ?_
         rintro e w6 ⟨rfl,hg6,hJ6,hR6⟩
         clear hrec
         go_wp2_with fail
         refine hK.out _ _ (trivial) (fun hHeld => ?_)
         clear hK K
         (try simp only [Act.put,Q3,Q4,Q5])
         refine wpAnyH_done (by kernel_rfl) ?_ _
         go_wp2_with fail
         go_meet
         exact ⟨_,rfl,grown_trans' (grown_of_below hZ _) hg6,hJ6,hR6,Lib.hid rfl⟩
       case refine_3 =>
        go_simp
        have hk : Blk (Z.drew.alloc (.cells #[.string ⟨s.toArray⟩] 9)) Z.heap.size 9 #[.string ⟨s.toArray⟩]:=Blk.at_ _ (by simp)
        have hZ:=hZ.alloc hZ.size (.cells #[.string ⟨s.toArray⟩] 9)
        refine hK.out _ _ (trivial) (fun hHeld => ?_)
        clear hK K
        (try simp only [Act.put,Q3,Q4,Q5])
        refine wpAnyH_ready (rs:=[8,10]) (by kernel_rfl) (by simp) ?_
        refine AllReadyH.cons rfl (fun K hK => ?_) (AllReadyH.cons rfl (fun K hK => ?_) AllReadyH.nil)
        case refine_1 =>
         go_simp
         refine hK.out _ _ (trivial) (fun hHeld => ?_)
         clear hK K
         (try simp only [Act.put,Q3,Q4,Q5])
         refine wpAnyH_ready (rs:=[10]) (by kernel_rfl) (by simp) ?_
         refine AllReadyH.cons rfl (fun K hK => ?_) AllReadyH.nil
         go_simp
         refine hK.out _ _ (trivial) (fun hHeld => ?_)
         clear hK K
         (try simp only [Act.put,Q3,Q4,Q5])
         (refine wpAnyH_take (i:=11) (v:=?_) (by (simp only [Q0,Q1,Q2]; rfl)) (by kernel_rfl) (by kernel_rfl) (by kernel_rfl) (by exact fun _ _ _ h => h) (Or.inl ⟨by rfl,?_⟩) (by assumption) ?_; (rotate_left 1; (intro w hSw; (try dsimp only at hSw); go_simp); (try with_reducible rfl)); (try simp only [Act.put,Q3,Q4,Q5]))
         refine wpAnyH_ready (rs:=[14]) (by kernel_rfl) (by simp) ?_
         refine AllReadyH.cons rfl (fun K hK => ?_) AllReadyH.nil
         refine step_appR (lo0:=0) (lo:=0) (n:=t.length) (xs:=strs t) _ rfl _ _ ty_strsL rfl (HSS.out _ hZ).2.2.now htn rfl (Row.lit (n:=1) (size:=1) hk (Nat.zero_le _) rfl) (by decide) rfl rfl (by omega) (by omega) ?_
         intro A5 c5 w5 hd5 g5
         have hZ:=hZ.trans ((below_none g5).mono hZ.size)
         have HD5 : Hid (w5.ownsRow (Z.drew.alloc (.cells #[.string ⟨s.toArray⟩] 9)).heap.size 9 1 (.slice A5 (t ++ [s]).length c5) (t ++ [s]).length (strs (t ++ [s]))):=Lib.hid (by simpa [strs,encStr] using hd5)
         have HOB : Hid (ob < (Z.drew.alloc (.cells #[.string ⟨s.toArray⟩] 9)).heap.size):=Lib.hid (by have:=HOZ.out; simp; omega)
         refine hK.out _ _ (trivial) (fun hHeld => ?_)
         clear hK K
         (try simp only [Act.put,Q3,Q4,Q5])
         refine wpAnyH_ready (rs:=[16]) (by kernel_rfl) (by simp) ?_
         refine AllReadyH.cons rfl (fun K hK => ?_) AllReadyH.nil
         go_simp
         go_at_call 46
         have hst5 : StR ob w5 A5 (t ++ [s]):=StR.of (Row.of_own HD5.out) (fun a ha => by
          have h1:=(HD5.out.lt a.block (by rw [obk_is,ha]; rfl)).1
          have h2:=HOB.out
          omega)
         have hcl : (t ++ [s]).length ≤ c5:=own_capY HD5.out
         have hrec:=ih (l.length - (i + 1)) (by omega) (l.drop (i + 1)) k (t ++ [s]) _ A5 _ c5 w5 (by simp) (by rw [List.length_drop]; exact hRC) hcl (by rw [List.length_append,List.length_drop]; simp; omega) (by omega) (by simp) (HSS.out _ hZ).1 (HSD.out _ hZ) hst5
         rw [show (l.drop (i + 1)).length = l.length - (i + 1) by simp,show (t ++ [s]).length = t.length + 1 by simp] at hrec
         refine hrec.mono ?_
         rintro e w6 ⟨rfl,hg6,hJ6,hR6⟩
         clear hrec
         go_wp2_with fail
         refine hK.out _ _ (trivial) (fun hHeld => ?_)
         clear hK K
         (try simp only [Act.put,Q3,Q4,Q5])
         refine wpAnyH_done (by kernel_rfl) ?_ _
         go_wp2_with fail
         go_meet
         exact ⟨_,rfl,grown_trans' (grown_of_below hZ _) hg6,hJ6,hR6,Lib.hid rfl⟩
        case refine_2 =>
         go_simp
         refine hK.out _ _ (trivial) (fun hHeld => ?_)
         clear hK K
         (try simp only [Act.put,Q3,Q4,Q5])
         refine wpAnyH_ready (rs:=[8]) (by kernel_rfl) (by simp) ?_
         refine AllReadyH.cons rfl (fun K hK => ?_) AllReadyH.nil
         go_simp
         refine hK.out _ _ (trivial) (fun hHeld => ?_)
         clear hK K
         (try simp only [Act.put,Q3,Q4,Q5])
         (refine wpAnyH_take (i:=11) (v:=?_) (by (simp only [Q0,Q1,Q2]; rfl)) (by kernel_rfl) (by kernel_rfl) (by kernel_rfl) (by exact fun _ _ _ h => h) (Or.inl ⟨by rfl,?_⟩) (by assumption) ?_; (rotate_left 1; (intro w hSw; (try dsimp only at hSw); go_simp); (try with_reducible rfl)); (try simp only [Act.put,Q3,Q4,Q5]))
         refine wpAnyH_ready (rs:=[14]) (by kernel_rfl) (by simp) ?_
         refine AllReadyH.cons rfl (fun K hK => ?_) AllReadyH.nil
         refine step_appR (lo0:=0) (lo:=0) (n:=t.length) (xs:=strs t) _ rfl _ _ ty_strsL rfl (HSS.out _ hZ).2.2.now htn rfl (Row.lit (n:=1) (size:=1) hk (Nat.zero_le _) rfl) (by decide) rfl rfl (by omega) (by omega) ?_
         intro A5 c5 w5 hd5 g5
         have hZ:=hZ.trans ((below_none g5).mono hZ.size)
         have HD5 : Hid (w5.ownsRow (Z.drew.alloc (.cells #[.string ⟨s.toArray⟩] 9)).heap.size 9 1 (.slice A5 (t ++ [s]).length c5) (t ++ [s]).length (strs (t ++ [s]))):=Lib.hid (by simpa [strs,encStr] using hd5)
         have HOB : Hid (ob < (Z.drew.alloc (.cells #[.string ⟨s.toArray⟩] 9)).heap.size):=Lib.hid (by have:=HOZ.out; simp; omega)
         refine hK.out _ _ (trivial) (fun hHeld => ?_)
         clear hK K
         (try simp only [Act.put,Q3,Q4,Q5])
         refine wpAnyH_ready (rs:=[16]) (by kernel_rfl) (by simp) ?_
         refine AllReadyH.cons rfl (fun K hK => ?_) AllReadyH.nil
         go_simp
         go_at_call 46
         have hst5 : StR ob w5 A5 (t ++ [s]):=StR.of (Row.of_own HD5.out) (fun a ha => by
          have h1:=(HD5.out.lt a.block (by rw [obk_is,ha]; rfl)).1
          have h2:=HOB.out
          omega)
         have hcl : (t ++ [s]).length ≤ c5:=own_capY HD5.out
         have hrec:=ih (l.length - (i + 1)) (by omega) (l.drop (i + 1)) k (t ++ [s]) _ A5 _ c5 w5 (by simp) (by rw [List.length_drop]; exact hRC) hcl (by rw [List.length_append,List.length_drop]; simp; omega) (by omega) (by simp) (HSS.out _ hZ).1 (HSD.out _ hZ) hst5
         rw [show (l.drop (i + 1)).length = l.length - (i + 1) by simp,show (t ++ [s]).length = t.length + 1 by simp] at hrec
         refine hrec.mono ?_
         rintro e w6 ⟨rfl,hg6,hJ6,hR6⟩
         clear hrec
         go_wp2_with fail
         refine hK.out _ _ (trivial) (fun hHeld => ?_)
         clear hK K
         (try simp only [Act.put,Q3,Q4,Q5])
         refine wpAnyH_done (by kernel_rfl) ?_ _
         go_wp2_with fail
         go_meet
         exact ⟨_,rfl,grown_trans' (grown_of_below hZ _) hg6,hJ6,hR6,Lib.hid rfl⟩
     case rest =>
      obtain ⟨R1,rfl,hg6,hJ6,hR6,HR1⟩:=hcut
      have hgr : W.grownBy wc (some ob):=grown_trans' hg hg6
      cases hc : R1 with
      | none =>
       have HN : Hid ((combos (l.drop i) (k + 1) t).find? (fastB f most) = (combos (l.drop (i + 1)) (k + 1) t).find? (fastB f most)):=Lib.hid (by rw [HCD.out,List.find?_append,← HR1.out,hc]; rfl)
       simp only [Option.isSome_none]
       clear hc
       go_wp2_with fail
       go_roundw
       case rel => exact ⟨i + 1,by omega,by go_num,hgr,hJ6,Lib.hid (by rw [HC.out,HN.out])⟩
       case measure => simp [intOf]; omega
      | some x =>
       have HN : Hid ((combos l (k + 1) t).find? (fastB f most) = some x):=Lib.hid (by rw [HC.out,HCD.out,List.find?_append,← HR1.out,hc]; rfl)
       have hox:=hR6 x hc
       simp only [Option.isSome_some]
       clear hc
       go_wp2_with fail
       go_ret
       exact ⟨by rw [HN.out]; rfl,hgr,hJ6,fun y hy => by rw [HN.out] at hy; injection hy with hy; subst hy; exact hox⟩
    ·have hie : i = l.length:=by omega
     subst hie
     have HN : Hid ((combos l (k + 1) t).find? (fastB f most) = none):=Lib.hid (by rw [HC.out,List.drop_length]; rfl)
     go_wp2_with fail
     go_ret
     exact ⟨by rw [HN.out]; rfl,hg,hJ,fun x hx => by rw [HN.out] at hx; cases hx⟩

end Go.Proofs.YthchgkdhegaehaaGreatDoor
