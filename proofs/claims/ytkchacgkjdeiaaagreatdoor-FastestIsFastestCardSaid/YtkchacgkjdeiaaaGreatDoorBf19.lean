/- Texts of this seat, laid together: SgC SgD SgE SgG SgF Ha. -/
import Derived.Deep.DeepCutAuto
import Derived.Test.YtkchacgkjdeiaaaGreatDoorBf15
import Derived.Test.YtkchacgkjdeiaaaGreatDoorBf16
import Derived.Test.YtkchacgkjdeiaaaGreatDoorBf17
import Derived.Test.YtkchacgkjdeiaaaGreatDoorBf18
import Derived.Test.YtkchacgkjdeiaaaGreatDoorBf04
import Derived.Test.YtkchacgkjdeiaaaGreatDoorBf03
/- slices.SortFunc over steps, and the walk of leasts. -/
set_option linter.unusedVariables false
set_option linter.unusedSimpArgs false
namespace Go.Proofs.YtkchacgkjdeiaaaGreatDoor
open Go.RowKit Go.Sort

theorem ty_stepsS : SliceTy Tryz.prog 215 217 3 24:=.mk' Tryz.underlying215 (z:=.agg #[.int .i64 0,.int .i64 0,.int .i64 0]) (by kernel_rfl) rfl (by decide)
def encS (x : Stp) : List Value:=[.int .i64 x.1,.int .i64 x.2.1,.int .i64 x.2.2]
def cmpS (x y : Stp) : Int:=cmpI y.1 x.1
set_option maxHeartbeats 1000000 in
theorem stepsCmp_any (x y : Stp) (w : World) :
  Calls Tryz.prog 126 #[.agg #[.int .i64 x.1,.int .i64 x.2.1,.int .i64 x.2.2],.agg #[.int .i64 y.1,.int .i64 y.2.1,.int .i64 y.2.2]] w fun e w' => e = .returned (.int .i64 (cmpS x y)) ∧ ∃ os,w' = Sort.grow w os:=by
 go_enter Tryz.func126,Tryz.ntmps126
 go_wp2_with fail;refine (cmpInt_any _ _ _).mono ?_;rintro e w1 ⟨rfl,rfl⟩;go_wp2_with fail;go_ret;refine ⟨rfl,?_⟩;simp only [Sort.alloc_eq_grow,Sort.grow_grow];exact ⟨_,rfl⟩
theorem cmpS_lt (x y : Stp) : cmpS x y < 0 ↔ y.1 < x.1:=cmpI_lt _ _
theorem cmpS_swo : SWO (ltOf cmpS) where
 irrefl x:=by unfold ltOf; simp only [decide_eq_false_iff_not]; rw [cmpS_lt]; omega
 trans x y z h1 h2:=by unfold ltOf at *; simp only [decide_eq_true_eq] at *; rw [cmpS_lt] at *; omega
 ntrans x y z h1 h2:=by unfold ltOf at *; simp only [decide_eq_false_iff_not] at *; rw [cmpS_lt] at *; omega
theorem sortS_any (A : Option Addr) (c base : Nat) (zs : List Stp) (w : World) (ho : w.ownsRow base 217 3 (.slice A zs.length c) zs.length (trs zs)) (hl : zs.length ≤ 1000000000) :
  Calls Tryz.prog 125 #[.slice A zs.length c,.func (.func 126) #[] #[]] w fun e w' => e = .returned (.tuple #[]) ∧ ∃ ys : List Stp,ys.Perm zs ∧ ys.Pairwise (fun x y => y.1 ≤ x.1) ∧ w'.ownsRow base 217 3 (.slice A ys.length c) ys.length (trs ys) ∧ w.grownBy w' (Value.slice A zs.length c).ownBlock:=by
 have h:=sortK_own (α:=Stp) Tryz.sortStep 3 (by omega) Tryz.isAgg217 Tryz.sizeOf217 encS (fun _ => rfl) (fun x v hv => by simp [encS] at hv; rcases hv with rfl | rfl | rfl <;> rfl) cmpS cmpS_swo 126 #[] (enters_of Tryz.func126 (by kernel_rfl) rfl)
  (fun x y w => stepsCmp_any x y w) A c base 217 zs w ho hl
 change Calls Tryz.prog 125 _ _ _ at h;refine h.mono ?_;rintro e w' ⟨rfl,ys,hp,hs,hown,hg⟩;exact ⟨rfl,ys,hp,hs.imp (fun {x y} hxy => by rw [cmpS_lt] at hxy; omega),hown,hg⟩
theorem own_blkS {w : World} {base : Nat} {e : TypeId} {A : Option Addr} {n c : Nat} {xs : List Value} (h : w.ownsRow base e 1 (.slice A n c) n xs) (hn : 0 < n) : ∃ g cs,A = some ⟨g,0,none⟩ ∧ base ≤ g ∧ Blk w g e cs ∧ (∀ i : Nat,i < n → cs[i]? = xs[i]?) ∧ n ≤ cs.size:=by
 rcases h.2 with ⟨_,h0⟩ | ⟨g,cap,cur,hv,hg,hh,hcap,hm,hcs,ht⟩
 ·omega
 ·injection hv with e1 e2 e3
  subst e3;refine ⟨g,cur,e1,hg,hh,fun i hi => ?_,by omega⟩;rw [← ht,List.getElem?_take_of_lt (by omega),Array.getElem?_toList]
end Go.Proofs.YtkchacgkjdeiaaaGreatDoor
/- The walk of leasts at a history that is right. -/
namespace Go.Proofs.YtkchacgkjdeiaaaGreatDoor
open Go.RowKit Go.Sort

def OutB (w : World) (g : Nat) (ol : List Int) : Prop:=∃ cs,Blk w g 3 cs ∧ ∀ i (h : i < ol.length),cs[i]? = some (.int .i64 ol[i])
theorem OutB.lt {w : World} {g : Nat} {ol : List Int} (h : OutB w g ol) : g < w.heap.size:=by obtain ⟨cs,h1,_⟩:=h; exact h1.lt
theorem OutB.below {w w' : World} {g : Nat} {ol : List Int} (h : OutB w g ol) (hb : Below w.heap.size w w') : OutB w' g ol:=by obtain ⟨cs,h1,h2⟩:=h; exact ⟨cs,h1.below hb,h2⟩
theorem OutB.alloc {w : World} {g : Nat} {ol : List Int} (h : OutB w g ol) (o : Obj) : OutB (w.alloc o) g ol:=h.below ((Below.refl _ _).alloc (Nat.le_refl _) o)
theorem OutB.drewN {w : World} {g : Nat} {ol : List Int} (h : OutB w g ol) (q : Nat) : OutB (w.drewN q) g ol:=h
theorem OutB.drew {w : World} {g : Nat} {ol : List Int} (h : OutB w g ol) : OutB w.drew g ol:=h
theorem OutB.app {w1 w2 : World} {g base n size : Nat} {e : TypeId} {ol : List Int} {v : Value} {xs : List Value} (hown : w1.ownsRow base e size v n xs) (h : OutB w1 g ol) (hg : w1.grownBy w2 v.ownBlock) (hne : e ≠ 3) : OutB w2 g ol:=by
 obtain ⟨cs,h1,h2⟩:=h; exact ⟨cs,Blk.app hown h1 hg hne,h2⟩
theorem OutB.cell {w : World} {g : Nat} {ol : List Int} (h : OutB w g ol) (i : Nat) (hi : i < ol.length) : w.cell? ⟨g,i,none⟩ = some (.int .i64 ol[i]):=by obtain ⟨cs,h1,h2⟩:=h; rw [h1.cell]; exact h2 i hi
theorem OutB.frz {w : World} {g : Nat} {ol : List Int} (h : OutB w g ol) (i : Nat) : w.frozen? ⟨g,i,none⟩ = false:=by
 obtain ⟨cs,h1,_⟩:=h;have h' : w.heap[g]? = some (.cells cs 3 (0,0)):=h1
 simp [World.frozen?,h']
theorem OutB.set {w : World} {g : Nat} {ol : List Int} (h : OutB w g ol) (i : Nat) (hi : i < ol.length) (x : Int) : OutB (w.setCell ⟨g,i,none⟩ (.int .i64 x)) g (ol.set i x):=by
 obtain ⟨cs,h1,h2⟩:=h;have h' : w.heap[g]? = some (.cells cs 3 (0,0)):=h1;refine ⟨cs.setIfInBounds i (.int .i64 x),?_,fun j hj => ?_⟩
 ·unfold Blk
  simp [World.setCell,Array.getElem?_modify,h']
 ·have hj' : j < ol.length:=by simpa using hj
  have hc:=h2 j hj';have hs : j < cs.size:=(Array.getElem?_eq_some_iff.1 hc).1;rw [Array.getElem?_setIfInBounds,List.getElem_set]
  by_cases e : i = j
  ·subst e; simp [hs]
  ·simp [e,hc]
theorem OutB.keep {w : World} {g : Nat} {ol : List Int} (h : OutB w g ol) : ∀ (k i : Nat) (u : Value),g ≠ k → OutB (w.setCell ⟨k,i,none⟩ u) g ol:=by
 intro k i u hne;obtain ⟨cs,h1,h2⟩:=h;have h' : w.heap[g]? = some (.cells cs 3 (0,0)):=h1
 have hne' : ¬ k = g:=fun e => hne e.symm
 refine ⟨cs,?_,h2⟩;unfold Blk
 simp [World.setCell,Array.getElem?_modify,h',hne']

theorem Row.set_low {w : World} {lo size : Nat} {A : Option Addr} {n : Nat} {xs : List Value} (h : Row w lo size A n xs) (g i : Nat) (u : Value) (hg : g < lo) : Row (w.setCell ⟨g,i,none⟩ u) lo size A n xs :=
 h.keep (by simp) (fun b hl _ => by
  have hne : ¬ g = b:=by omega
  simp [World.setCell,Array.getElem?_modify,hne])
theorem step_facts {ss ys : List Stp} {n k : Nat} (hf : Fwd ss n) (ht : ∀ s ∈ ss,s.2.2 ≤ 864000000) (hn : n ≤ 60) (hp : ys.Perm ss) (hs : ys.Pairwise fun x y => y.1 ≤ x.1) (hk : k < ys.length) :
  ∃ f t : Nat,ys[k].1 = (f : Int) ∧ ys[k].2.1 = (t : Int) ∧ f < t ∧ t ≤ n ∧ 0 ≤ ys[k].2.2 ∧ ys[k].2.2 ≤ 864000000 ∧ outP (lvV ss n) (ys.take k) n t = lvV ss n t ∧ -1 ≤ lvV ss n t ∧ lvV ss n t ≤ 60000000000 ∧
   (0 ≤ lvV ss n t ∧ (outP (lvV ss n) (ys.take k) n f < 0 ∨ ys[k].2.2 + lvV ss n t < outP (lvV ss n) (ys.take k) n f) → outL (lvV ss n) (ys.take (k + 1)) n = (outL (lvV ss n) (ys.take k) n).set f (ys[k].2.2 + lvV ss n t)) ∧
   (¬ (0 ≤ lvV ss n t ∧ (outP (lvV ss n) (ys.take k) n f < 0 ∨ ys[k].2.2 + lvV ss n t < outP (lvV ss n) (ys.take k) n f)) → outL (lvV ss n) (ys.take (k + 1)) n = outL (lvV ss n) (ys.take k) n):=by
 have hm : ys[k] ∈ ss:=hp.mem_iff.1 (List.getElem_mem hk);have h1:=hf _ hm;have h2:=ht _ hm
 have e : ys = ys.take k ++ ys[k] :: ys.drop (k + 1):=by
  rw [List.getElem_cons_drop,List.take_append_drop]
 have hd:=outP_done (p:=ys.take k) (s:=ys[k]) (r:=ys.drop (k + 1)) hf (by rw [← e]; exact hp) (by rw [← e]; exact hs);have hv:=lvV_ge hf ys[k].2.1.toNat (by omega);have hv2:=lvV_le hf ht (n - ys[k].2.1.toNat) ys[k].2.1.toNat rfl (by omega);have hsn:=List.take_succ_eq_append_getElem hk;refine ⟨ys[k].1.toNat,ys[k].2.1.toNat,by omega,by omega,by omega,by omega,by omega,by omega,hd,hv,by omega,fun h => ?_,fun h => ?_⟩
 ·rw [hsn]; exact outL_set h1.1 (by omega) h
 ·rw [hsn]; exact outL_keep h1.1 (by omega) h

set_option maxHeartbeats 4000000 in
set_option maxRecDepth 100000 in
theorem leasts_ok (p : Nat) (SA TA : Option Addr) (c d lo : Nat) (segs : List (List UInt8)) (atts : List Att) (w : World) (hp : Blk w p 119 #[.slice SA segs.length c,.slice TA atts.length d]) (hh : Hist w lo SA TA segs atts) (hok : HistOk segs atts) :
  Calls Tryz.prog 94 #[.pointer (some ⟨p,0,none⟩)] w fun e w' => ∃ g c',e = .returned (.slice (some ⟨g,0,none⟩) (segs.length + 1) c') ∧ w.heap.size ≤ g ∧ OutB w' g (outL (lvV (stepsA atts) segs.length) (stepsA atts) segs.length) ∧ Below w.heap.size w w':=by
 have n1:=hok.n1;have n2:=hok.n2;have m:=hok.m;have HO:=Lib.hid hok;obtain ⟨f1,f2,f3⟩:=stepsA_fwd hok;have HF:=Lib.hid f1;have HT:=Lib.hid f3;clear hok f1 f3;obtain ⟨k0,k1⟩:=hp.two_;have hzp:=hp.lt;have HE : Hid (List.replicate segs.length (-1 : Int) ++ [0] = outL (lvV (stepsA atts) segs.length) [] segs.length):=Lib.hid (outL_nil _ _).symm
 go_enter Tryz.func94,Tryz.ntmps94
 go_wp2_with fail;have hrep:=repeat_any _ 1 w.heap.size (-1) (segs.length + 1) _ (row_new w #[.int .i64 (-1)] 3 w.heap.size 1 1 (Nat.le_refl _) rfl) (by omega);rw [Int.natCast_add] at hrep;refine hrep.mono ?_;clear hrep;rintro e w1 ⟨A1,c1,rfl,hown1,hb1⟩;have hx1 : Below w.heap.size w w1:=((Below.refl _ _).alloc (Nat.le_refl _) _).trans (hb1.mono (by simp));obtain ⟨g,cs,rfl,hg,hblk,hcs,hsz⟩:=own_blkS hown1 (by omega)
 have hob : OutB w1 g (List.replicate (segs.length + 1) (-1)):=⟨cs,hblk,fun i hi => by rw [hcs i (by simpa using hi)]; simp at hi; simp [hi]⟩
 have hg' : w.heap.size ≤ g:=by simp at hg; omega
 clear hown1 hb1 hblk hcs hsz hg cs;have cn:=hob.cell segs.length (by simp);have fn:=hob.frz segs.length;have hob2:=hob.set segs.length (by simp) 0
 have e9 : (List.replicate (segs.length + 1) (-1 : Int)).set segs.length 0 = List.replicate segs.length (-1) ++ [0]:=by
  rw [List.replicate_succ',List.set_append_right _ _ (by simp)]; simp
 rw [e9,HE.out] at hob2;have hx2 : Below w.heap.size w (w1.setCell ⟨g,segs.length,none⟩ (.int .i64 0)):=Below.setCell hx1 (by simpa using hg') _
 have hcap : segs.length < segs.length + 1:=by omega
 clear e9 HE;go_upto_region 5 with (fail);have hpx : Blk (w1.setCell ⟨g,segs.length,none⟩ (.int .i64 0)) p 119 #[.slice SA segs.length c,.slice TA atts.length d]:=(hx2.block p hzp).trans hp;have hhx:=hh.below hx2;have hgx:=hob2.lt;have hzx:=hx2.size;clear hob cn fn hx1 hp hh k0 k1;generalize w1.setCell ⟨g,segs.length,none⟩ (.int .i64 0) = W at *;obtain ⟨k0,k1⟩:=hpx.two_;have hpW:=hpx.lt;go_wp2_with fail
 go_loopw [5,32] (fun v i wr => ∃ (k : Nat) (A' : Option Addr) (c' : Nat),k ≤ atts.length ∧ i = .int .i64 k ∧ v = .slice A' (stepsA (atts.take k)).length c' ∧ wr.ownsRow W.heap.size 217 3 (.slice A' (stepsA (atts.take k)).length c') (stepsA (atts.take k)).length (trs (stepsA (atts.take k))) ∧ Below W.heap.size W wr) (fun _ i _ => atts.length - (intOf i).toNat)
 case atStart => exact ⟨0,none,0,Nat.zero_le _,rfl,rfl,World.ownsRow_nil _ _ _ _,Below.refl _ _⟩
 case round =>
  obtain ⟨k,A',c',hk,rfl,rfl,hown,hbw⟩:=hrel;have hz:=hbw.size
  by_cases hlt : k < atts.length
  ·obtain ⟨b,off,B,cB,rfl,hbs,c0W,c1W,hrB⟩:=hhx.att hlt
   have c0:=(hbw.cell (p:=⟨b,off + k * 2,none⟩) hbs).trans c0W;have c1':=(hbw.cell (p:=⟨b,off + k * 2 + 1,none⟩) hbs).trans c1W;clear c0W c1W;have HTK:=Lib.hid (stepsA_take atts k hlt);have HSP:=Lib.hid (HO.out.spl k hlt);have hsl:=HSP.out.len
   have hpl : (stepsA (atts.take k)).length ≤ 30000:=by
    have h1 : (stepsA (atts.take k)).length ≤ (stepsA atts).length:=by
     have : stepsA atts = stepsA (atts.take k) ++ stepsA (atts.drop k):=by unfold stepsA; rw [← List.flatMap_append,List.take_append_drop]
     rw [this]; simp
    omega
   have hownA:=hown.alloc (.cells #[.int .i64 atts[k].1,.slice B atts[k].2.length cB] 116)
   have hbwA : Below W.heap.size W (wr.alloc (.cells #[.int .i64 atts[k].1,.slice B atts[k].2.length cB] 116)):=(by repeat (first | exact hbw | refine Below.alloc ?_ (by first | omega | (simp; omega)) _ | refine below_drewN' ?_ _ | refine Below.drew ?_))
   have HSO : Hid (stepsOf atts[k].2 = (stS atts[k].2 atts[k].2.length).2.2):=Lib.hid rfl;generalize stepsA (atts.take k) = o at *;generalize hx9 : atts[k].1 = no at *;generalize hl9 : atts[k].2 = l at *;clear hx9 hl9;go_wp2_with fail;have HIV:=Lib.hid (fun j hj => stS_inv HSP.out j hj);generalize wr.alloc (.cells #[.int .i64 no,.slice B l.length cB] 116) = Wa at *
   go_loopw [5,8,9,39] (fun v fr tm i wr => ∃ (j : Nat) (A2 : Option Addr) (c2 : Nat),j ≤ l.length ∧ i = .int .i64 j ∧ fr = .int .i64 (stS l j).1 ∧ tm = .int .i64 (stS l j).2.1 ∧ v = .slice A2 (o ++ (stS l j).2.2).length c2 ∧ wr.ownsRow W.heap.size 217 3 (.slice A2 (o ++ (stS l j).2.2).length c2) (o ++ (stS l j).2.2).length (trs (o ++ (stS l j).2.2)) ∧ Below W.heap.size W wr) (fun _ _ _ i _ => l.length - (intOf i).toNat)
   case atStart => exact ⟨0,A',c',Nat.zero_le _,rfl,rfl,rfl,by simp [stS],by simpa [stS] using hownA,hbwA⟩
   case round =>
    clear hownA hbwA hown hbw;obtain ⟨j,A2,c2,hj,rfl,rfl,rfl,rfl,hown2,hbw2⟩:=hrel;have z2:=hbw2.size;obtain ⟨i1,i2,i3,i4,i5⟩:=HIV.out j hj
    by_cases hjl : j < l.length
    ·obtain ⟨bB,oB,rfl,_,hbB,cj⟩:=(hrB.below hbw2).int_at hjl
     obtain ⟨x0,x1⟩:=HSP.out.bd j hjl;have u:=HSP.out.up j hjl;have g0:=sgM_nonneg (l.take j);have HY:=Lib.hid (stS_yes l j hjl);have HN:=Lib.hid (stS_no l j hjl);have HU:=Lib.hid u;rw [← i3] at g0;have HI3:=Lib.hid i3;clear i5 i3 u;generalize hx9 : l[j] = x at *;generalize hs9 : stS l j = s at *;clear hs9 hx9
     by_cases hx : x = 0
     ·have HE:=Lib.hid (HN.out hx)
      have d1 : (x != 0) = false:=by simpa using hx
      clear hx HY HN HU;go_wp2_with fail;go_roundw
      case rel => exact ⟨j + 1,A2,c2,by omega,by go_num,by rw [HE.out],by rw [HE.out],by rw [HE.out],by rw [HE.out]; exact hown2,hbw2⟩
      case measure => simp [intOf]; omega
     ·have HE:=Lib.hid (HY.out hx)
      have hu:=HU.out hx;rw [← HI3.out] at hu
      have d1 : (x != 0) = true:=by simpa using hx
      have hol : (o ++ s.2.2).length ≤ 31000:=by rw [List.length_append]; omega
      have HA : Hid (o ++ (s.2.2 ++ [(s.1,(j : Int) + 1,x - s.2.1)]) = (o ++ s.2.2) ++ [(s.1,(j : Int) + 1,x - s.2.1)]):=Lib.hid (by rw [List.append_assoc]);clear hx HY HN HU HI3;generalize o ++ s.2.2 = o2 at *
      go_wp2_with (at_builtin; go_must (refine wpList_app (lo:=W.heap.size) (base:=W.heap.size) (n:=o2.length) (xs:=trs o2) _ _ rfl _ _ ty_stepsS rfl (by repeat (first | exact hown2 | refine World.ownsRow.alloc ?_ _ | refine own_drewN ?_ _ | refine World.ownsRow.drew ?_)) rfl (by first | exact row_new' _ (by first | rfl | simp) (by first | omega | (simp; omega)) rfl | exact row_newN _ _ (by first | rfl | simp) (by first | omega | (simp; omega)) rfl | exact row_newD _ (by first | rfl | simp) (by first | omega | (simp; omega)) rfl) rfl rfl (by first | omega | decide) (by first | omega | decide) (by first | omega | (simp; omega)) ?_))
      intro A5 c5 w5 hown5 hg5 _;have hb5 : Below W.heap.size W w5:=below_app hown2 (by repeat (first | exact hbw2 | refine Below.alloc ?_ (by first | omega | (simp; omega)) _ | refine below_drewN' ?_ _ | refine Below.drew ?_)) hg5 (Nat.le_refl _) (by simp; omega);go_wp2_with fail;go_roundw
      case rel => exact ⟨j + 1,A5,c5,by omega,by go_num,by rw [HE.out],by rw [HE.out],by rw [HE.out,HA.out]; simp,by rw [HE.out,HA.out,trs_app,List.length_append]; exact hown5,hb5⟩
      case measure => simp [intOf]; omega
    ·have hjn : j = l.length:=by omega
     have HF2 : Hid (stepsA (atts.take (k + 1)) = o ++ (stS l j).2.2):=Lib.hid (by rw [HTK.out,HSO.out,hjn]);clear hjn i5;go_wp2_with fail;go_roundw
     case rel => exact ⟨k + 1,A2,c2,by omega,by go_num,by rw [HF2.out],by rw [HF2.out]; exact hown2,hbw2⟩
     case measure => simp [intOf]; omega
  ·have hkn : k = atts.length:=by omega
   have HA : Hid (stepsA (atts.take k) = stepsA atts):=Lib.hid (by rw [hkn,List.take_length]);rw [HA.out] at hown;rw [HA.out];clear hkn HA;have hobw:=hob2.below hbw;go_wp2_with fail;refine (sortS_any _ _ _ _ _ hown (by omega)).mono ?_;rintro e w5 ⟨rfl,ys,hperm,hpair,hown5,hg5⟩;have hob5:=OutB.app hown hobw hg5 (by decide);have hb5 : Below W.heap.size W w5:=hbw.grown hg5 hbw.size (fun k hk => (hown.lt k hk).1);have HP:=Lib.hid hperm;have HS:=Lib.hid hpair;have hyl : ys.length = (stepsA atts).length:=hperm.length_eq;have HYL:=Lib.hid hyl;have z5:=hb5.size;rw [← hyl];clear hperm hpair hyl hown hobw hg5 hbw;have HSF:=Lib.hid (fun k hk => step_facts (k:=k) HF.out HT.out n2 HP.out HS.out hk);have HLV:=Lib.hid (outL_len (lvV (stepsA atts) segs.length) ys segs.length);have HLT:=Lib.hid (fun k => outL_len (lvV (stepsA atts) segs.length) (ys.take k) segs.length);have HAT:=Lib.hid (fun k => outL_at (lvV (stepsA atts) segs.length) (ys.take k) segs.length)
   have HALL : Hid (outL (lvV (stepsA atts) segs.length) ys segs.length = outL (lvV (stepsA atts) segs.length) (stepsA atts) segs.length):=Lib.hid (by
    unfold outL
    refine List.map_congr_left fun i hi => ?_
    have hi' : i ≤ segs.length:=by have:=List.mem_range.1 hi; omega
    rw [outP_all HF.out HP.out i hi',outP_all HF.out (List.Perm.refl _) i hi'])
   have hyb : ys.length ≤ 30000:=by have:=HYL.out; omega
   generalize hV : lvV (stepsA atts) segs.length = V at *;have HV:=Lib.hid hV;clear hV;go_wp2_with fail
   go_loopw [65] (fun i wr => ∃ (k : Nat),k ≤ ys.length ∧ i = .int .i64 k ∧ OutB wr g (outL V (ys.take k) segs.length) ∧ Row wr W.heap.size 3 A' ys.length (trs ys) ∧ Below w.heap.size w wr) (fun i _ => ys.length - (intOf i).toNat)
   case atStart => exact ⟨0,Nat.zero_le _,rfl,hob5,Row.of_own hown5,hx2.trans (hb5.mono hzx)⟩
   case round =>
    clear hob5 hown5 hb5;obtain ⟨k,hk,rfl,hob,hrs,hbw⟩:=hrel;have hgr:=hob.lt
    by_cases hlt : k < ys.length
    ·obtain ⟨b,off,rfl,hlo,hbs,c0,c1',c2⟩:=hrs.tr_at hlt
     obtain ⟨f,t,e1,e2,ft,tn,d0,d1,hd,v0,v1,hyes,hno⟩:=HSF.out k hlt;have hll:=HLT.out k;have ct:=hob.cell t (by omega);rw [HAT.out k t (by omega),hd] at ct;have cf:=hob.cell f (by omega);rw [HAT.out k f (by omega)] at cf;have ff:=hob.frz f;rw [e1] at c0;rw [e2] at c1';have HYES:=Lib.hid hyes;have HNO:=Lib.hid hno;generalize outP V (ys.take k) segs.length f = of at *;generalize V t = vt at *;generalize ys[k].2.2 = dd at *;clear hyes hno hd e1 e2;have hrsA:=hrs.alloc (.cells #[.int .i64 f,.int .i64 t,.int .i64 dd] 217);have hobA:=hob.alloc (.cells #[.int .i64 f,.int .i64 t,.int .i64 dd] 217)
     have hbwA : Below w.heap.size w (wr.alloc (.cells #[.int .i64 f,.int .i64 t,.int .i64 dd] 217)):=(by repeat (first | exact hbw | refine Below.alloc ?_ (by first | omega | (simp; omega)) _ | refine below_drewN' ?_ _ | refine Below.drew ?_))
     have t1 : (t : Int) < (segs.length : Int) + 1:=by omega
     have t2 : (f : Int) < (segs.length : Int) + 1:=by omega
     have wr1 : IntKind.i64.wrap (dd + vt) = dd + vt:=IntWalk.i64_in _ (by omega)
     by_cases hc : 0 ≤ vt ∧ (of < 0 ∨ dd + vt < of)
     ·have HE:=Lib.hid (HYES.out hc)
      have hset:=hobA.set f (by omega) (dd + vt);obtain ⟨h1,h2⟩:=hc
      have q1 : decide (0 ≤ vt) = true:=by simpa using h1
      by_cases h3 : of < 0
      ·have q2 : decide (of < 0) = true:=by simpa using h3
       clear h2;go_wp2_with fail
       go_quiet (fail)
       clear wr1;go_wp2_with fail;go_roundw
       case rel => exact ⟨k + 1,by omega,by go_num,by rw [HE.out]; exact OutB.set (hobA.drewN _) f (by omega) _,Row.set_low (Row.drewN hrsA _) g f _ hgx,Below.setCell (below_drewN' hbwA _) (by simpa using hg') _⟩
       case measure => simp [intOf]; omega
      ·have q2 : decide (of < 0) = false:=by simpa using h3
       have q3 : decide (dd + vt < of) = true:=by simp; omega
       clear h2;go_wp2_with fail
       go_quiet (fail)
       clear wr1;go_wp2_with fail;go_roundw
       case rel => exact ⟨k + 1,by omega,by go_num,by rw [HE.out]; exact OutB.set (hobA.drewN _) f (by omega) _,Row.set_low (Row.drewN hrsA _) g f _ hgx,Below.setCell (below_drewN' hbwA _) (by simpa using hg') _⟩
       case measure => simp [intOf]; omega
     ·have HE:=Lib.hid (HNO.out hc)
      have HC:=Lib.hid hc;clear hc
      by_cases h1 : 0 ≤ vt
      ·have q1 : decide (0 ≤ vt) = true:=by simpa using h1
       have q2 : decide (of < 0) = false:=by simp; have:=HC.out; omega
       have q3 : decide (dd + vt < of) = false:=by simp; have:=HC.out; omega
       go_wp2_with fail
       go_quiet (fail)
       clear wr1;go_wp2_with fail;go_roundw
       case rel => exact ⟨k + 1,by omega,by go_num,by rw [HE.out]; exact hobA.drewN _,Row.drewN hrsA _,below_drewN' hbwA _⟩
       case measure => simp [intOf]; omega
      ·have q1 : decide (0 ≤ vt) = false:=by simpa using h1
       go_wp2_with fail
       go_quiet (fail)
       clear wr1;go_wp2_with fail;go_roundw
       case rel => exact ⟨k + 1,by omega,by go_num,by rw [HE.out]; exact hobA.drewN _,Row.drewN hrsA _,below_drewN' hbwA _⟩
       case measure => simp [intOf]; omega
    ·have hkn : k = ys.length:=by omega
     have HL : Hid (ys.take k = ys):=Lib.hid (by rw [hkn,List.take_length]);rw [HL.out] at hob;clear hkn HL;go_wp2_with fail;go_ret;rw [HV.out,← HALL.out];exact ⟨g,c1,rfl,hg',hob,hbw⟩
end Go.Proofs.YtkchacgkjdeiaaaGreatDoor
/- The walk of SumOfBest at a history that is right. -/
namespace Go.Proofs.YtkchacgkjdeiaaaGreatDoor
open Go.RowKit Go.Sort

theorem ret3v {a b c x y z : Value} (h1 : a = x) (h2 : b = y) (h3 : c = z) : Ending.returned (.tuple #[a,b,c]) = .returned (.tuple #[x,y,z]):=by rw [h1,h2,h3]
def sumV (segs : List (List UInt8)) (atts : List Att) : Int:=lvV (stepsA atts) segs.length 0
set_option maxHeartbeats 1000000 in
theorem sumOfBest_ok (SA TA : Option Addr) (c d lo : Nat) (segs : List (List UInt8)) (atts : List Att) (w : World) (hh : Hist w lo SA TA segs atts) (hc : segs.length ≤ c) (hok : HistOk segs atts) :
  Calls Tryz.prog 56 #[.agg #[.slice SA segs.length c,.slice TA atts.length d]] w fun e w' => e = .returned (.tuple #[.int .i64 (max (sumV segs atts) 0),.bool (decide (0 ≤ sumV segs atts)),.int .i64 0]) ∧ Below w.heap.size w w':=by
 have HO:=Lib.hid hok;have n1:=hok.n1;have n2:=hok.n2;clear hok
 go_enter Tryz.func56,Tryz.ntmps56
 go_wp2_with fail;have hb0 : Below w.heap.size w (w.alloc (.cells #[.slice SA segs.length c,.slice TA atts.length d] 119)):=(Below.refl _ _).alloc (Nat.le_refl _) _;have hk0 : Blk (w.alloc (.cells #[.slice SA segs.length c,.slice TA atts.length d] 119)) w.heap.size 119 #[.slice SA segs.length c,.slice TA atts.length d]:=Blk.new _ _ _;have hh0:=hh.alloc (.cells #[.slice SA segs.length c,.slice TA atts.length d] 119);generalize w.alloc (.cells #[.slice SA segs.length c,.slice TA atts.length d] 119) = w0 at *;refine (checkHistory_ok _ _ _ _ _ segs atts _ hh0 hc HO.out).mono ?_;rintro e w1 ⟨rfl,hb1⟩;have hh1:=hh0.below hb1;have hk1:=hk0.below hb1;have hx1:=hb0.trans (hb1.mono hb0.size);clear hb1 hb0 hh0 hk0 hh;go_wp2_with fail;refine (leasts_ok _ _ _ _ _ _ segs atts _ hk1 hh1 HO.out).mono ?_;rintro e w2 ⟨g,c2,rfl,hg,hob,hb2⟩;have hx2:=hx1.trans (hb2.mono hx1.size);have hll:=outL_len (lvV (stepsA atts) segs.length) (stepsA atts) segs.length;have c0:=hob.cell 0 (by omega);rw [outL_at,outP_all (stepsA_fwd HO.out).1 (List.Perm.refl _) 0 (by omega)] at c0;have HS : Hid (sumV segs atts = lvV (stepsA atts) segs.length 0):=Lib.hid rfl;generalize lvV (stepsA atts) segs.length 0 = v at *;have hgl:=hob.lt;clear hb2 hx1 hh1 hk1 hob hll;rcases Int.lt_or_le v 0 with h | h
 ·have q : decide (0 ≤ v) = false:=by simp; omega
  go_wp2_with fail;go_ret3;exact ⟨ret3v (by rw [HS.out]; rfl) (by rw [HS.out,q]; rfl) rfl,hx2⟩
 ·have q : decide (0 ≤ v) = true:=by simp; omega
  go_wp2_with fail;go_ret3;exact ⟨ret3v (by rw [HS.out]; rfl) (by rw [HS.out,q]; rfl) rfl,hx2⟩
end Go.Proofs.YtkchacgkjdeiaaaGreatDoor
/- The walks of the faults of splits at any splits; slices.Index and Contains at numbers. -/
namespace Go.Proofs.YtkchacgkjdeiaaaGreatDoor
open Go.RowKit

end Go.Proofs.YtkchacgkjdeiaaaGreatDoor
/- The sum of best at the one history that the laws use as their last test. -/
namespace Go.Proofs.YtkchacgkjdeiaaaGreatDoor
open Go.RowKit Go.Sort

def exSegs : List (List UInt8):=[[97],[98]]
def exAtts : List Att:=[(1,[10,25]),(2,[0,20]),(3,[9])]
theorem ex_spl1 : SplOk 2 [10,25]:=⟨by decide,by decide,by decide,by decide⟩
theorem ex_spl2 : SplOk 2 [0,20]:=⟨by decide,by decide,by decide,by decide⟩
theorem ex_spl3 : SplOk 2 [9]:=⟨by decide,by decide,by decide,by decide⟩
theorem ex_ok : HistOk exSegs exAtts:=by
 refine ⟨by decide,by decide,by decide,by decide,by decide,by decide,fun i h => (match i,h with | 0,_ => (by decide : (1 : Int) < 2) | 1,_ => (by decide : (2 : Int) < 3)),fun i h => ?_⟩
 match i,h with
 | 0,_ => exact ex_spl1
 | 1,_ => exact ex_spl2
 | 2,_ => exact ex_spl3
theorem ex_sum : sumV exSegs exAtts = 20:=by decide
theorem ex_hist {W : World} {a b c d e : Nat} (ha : Blk W a 9 #[.string ⟨#[97]⟩,.string ⟨#[98]⟩]) (hb : Blk W b 3 #[.int .i64 10,.int .i64 25]) (hc : Blk W c 3 #[.int .i64 0,.int .i64 20]) (hd : Blk W d 3 #[.int .i64 9])
  (he : Blk W e 116 #[.int .i64 1,.slice (some ⟨b,0,none⟩) 2 2,.int .i64 2,.slice (some ⟨c,0,none⟩) 2 2,.int .i64 3,.slice (some ⟨d,0,none⟩) 1 1]) : Hist W 0 (some ⟨a,0,none⟩) (some ⟨e,0,none⟩) exSegs exAtts:=by
 refine ⟨Row.lit (n:=2) (size:=1) ha (Nat.zero_le _) rfl,_,Row.lit (n:=3) (size:=2) he (Nat.zero_le _) rfl,fun i h => ?_⟩
 match i,h with
 | 0,_ => exact ⟨_,_,rfl,rfl,Row.lit (n:=2) (size:=1) hb (Nat.zero_le _) rfl⟩
 | 1,_ => exact ⟨_,_,rfl,rfl,Row.lit (n:=2) (size:=1) hc (Nat.zero_le _) rfl⟩
 | 2,_ => exact ⟨_,_,rfl,rfl,Row.lit (n:=1) (size:=1) hd (Nat.zero_le _) rfl⟩
theorem ex_sumOfBest {W : World} {a b c d e : Nat} (ha : Blk W a 9 #[.string ⟨#[97]⟩,.string ⟨#[98]⟩]) (hb : Blk W b 3 #[.int .i64 10,.int .i64 25]) (hc : Blk W c 3 #[.int .i64 0,.int .i64 20]) (hd : Blk W d 3 #[.int .i64 9])
  (he : Blk W e 116 #[.int .i64 1,.slice (some ⟨b,0,none⟩) 2 2,.int .i64 2,.slice (some ⟨c,0,none⟩) 2 2,.int .i64 3,.slice (some ⟨d,0,none⟩) 1 1]) :
  Calls Tryz.prog 56 #[.agg #[.slice (some ⟨a,0,none⟩) 2 2,.slice (some ⟨e,0,none⟩) 3 3]] W fun r w' => r = .returned (.tuple #[.int .i64 20,.bool true,.int .i64 0]) ∧ Below W.heap.size W w':=by
 have h:=sumOfBest_ok (some ⟨a,0,none⟩) (some ⟨e,0,none⟩) 2 3 0 exSegs exAtts W (ex_hist ha hb hc hd he) (by decide) ex_ok;rw [ex_sum] at h;exact h
end Go.Proofs.YtkchacgkjdeiaaaGreatDoor
/- The walks of what checks keys and splits, at any: base.Key, slices.Index and Contains at strings, segment.splitsFault. -/
namespace Go.Proofs.YtkchacgkjdeiaaaGreatDoor
open Go.RowKit Go.Sort

theorem keyB_of {s : ByteArray} (h0 : 0 < s.size) (h1 : s.size ≤ 40) (h2 : 97 ≤ s[0].toNat ∧ s[0].toNat ≤ 122) : keyB s.data.toList = s.data.toList.all keyC:=by
 have e : s.data.toList.length = s.size:=by simp
 have e0 : s.data.toList.headD 0 = s[0]:=by
  rw [List.headD_eq_head?_getD,List.head?_eq_getElem?,List.getElem?_eq_getElem (by omega)];rfl
 unfold keyB;rw [e,e0,decide_eq_true h0,decide_eq_true h1,decide_eq_true h2.1,decide_eq_true h2.2];rfl
theorem keyB_not {s : ByteArray} (h : ¬ (0 < s.size ∧ s.size ≤ 40)) : keyB s.data.toList = false:=by
 have e : s.data.toList.length = s.size:=by simp
 unfold keyB;rw [e]
 by_cases h0 : 0 < s.size
 ·rw [decide_eq_false (p:=s.size ≤ 40) (by omega)]; simp
 ·rw [decide_eq_false h0]; simp
theorem keyB_head {s : ByteArray} (h0 : 0 < s.size) (h : ¬ (97 ≤ s[0].toNat ∧ s[0].toNat ≤ 122)) : keyB s.data.toList = false:=by
 have e : s.data.toList.length = s.size:=by simp
 have e0 : s.data.toList.headD 0 = s[0]:=by
  rw [List.headD_eq_head?_getD,List.head?_eq_getElem?,List.getElem?_eq_getElem (by omega)];rfl
 unfold keyB;rw [e0]
 by_cases h1 : 97 ≤ s[0].toNat
 ·rw [decide_eq_false (p:=s[0].toNat ≤ 122) (by omega)]; simp
 ·rw [decide_eq_false h1]; simp
theorem all_no {s : ByteArray} {k : Nat} (hk : k < s.size) (h : keyC s[k] = false) : s.data.toList.all keyC = false:=by
 rw [List.all_eq_false];refine ⟨s[k],?_,by rw [h]; decide⟩;have : s[k] = s.data.toList[k]'(by simpa using hk):=rfl;rw [this]; exact List.getElem_mem _
theorem all_yes {s : ByteArray} (h : ∀ k (hk : k < s.size),keyC s[k] = true) : s.data.toList.all keyC = true:=by
 rw [List.all_eq_true];intro c hc;obtain ⟨k,hk,rfl⟩:=List.mem_iff_getElem.1 hc;exact h k (by simpa using hk)
theorem keyC_bad {c : UInt8} (h : keyC c = false) : c.toNat < 48 ∧ c.toNat ≠ 45 ∨ 57 < c.toNat ∧ c.toNat < 97 ∧ c.toNat ≠ 95 ∨ 122 < c.toNat:=by
 unfold keyC at h;simp only [Bool.or_eq_false_iff,Bool.and_eq_false_iff,decide_eq_false_iff_not,beq_eq_false_iff_ne] at h;obtain ⟨⟨⟨h1,h2⟩,h3⟩,h4⟩:=h
 have h3' : c.toNat ≠ 45:=fun e => h3 (UInt8.toNat_inj.1 e)
 have h4' : c.toNat ≠ 95:=fun e => h4 (UInt8.toNat_inj.1 e)
 omega
set_option maxHeartbeats 1000000 in
theorem key_any (s : ByteArray) (w : World) : Calls Tryz.prog 122 #[.string s] w fun e w' => e = .returned (.bool (keyB s.data.toList)) ∧ w = w' := by
  by_cases h0 : 0 < s.size
  · have e1 : (s.toList == []) = false := by rw [ByteArray.toList_eq]; simp; intro h; have : s.size = 0 := by (have := congrArg Array.size h); simpa using this
                                             omega
    by_cases h1 : s.size ≤ 40
    · have c3 : decide ((40 : Int) < (s.size : Int)) = false := by simp; omega
      by_cases h2 : 97 ≤ s[0].toNat ∧ s[0].toNat ≤ 122
      · have HK := Lib.hid (keyB_of h0 h1 h2)
        have HN := Lib.hid (fun k (hk : k < s.size) (h : keyC s[k] = false) => (keyB_of h0 h1 h2).trans (all_no hk h))
        have c1 : decide ((s[0].toNat : Int) < 97) = false := by simp; omega
        have c2 : decide ((122 : Int) < (s[0].toNat : Int)) = false := by simp; omega
        obtain ⟨h4, h5⟩ := h2
        go_enter Tryz.func122, Tryz.ntmps122
        go_wp2_with fail
        go_loop [24] (fun i => ∃ k : Nat, k ≤ s.size ∧ i = .int .i64 k ∧ Hid (∀ j (hj : j < s.size), j < k → keyC s[j] = true)) (fun i => s.size - (intOf i).toNat)
        case atStart => exact ⟨0, Nat.zero_le _, rfl, Lib.hid (fun _ _ h => absurd h (Nat.not_lt_zero _))⟩
        case round =>
          obtain ⟨k, hk, rfl, HA⟩ := hrel
          by_cases hlt : k < s.size
          · cases hq : keyC s[k]
            · have HF := Lib.hid (HN.out k hlt hq)
              rcases keyC_bad hq with hc | hc | hc
              · have d1 : decide ((97 : Int) ≤ (s[k].toNat : Int)) = false := by simp; omega
                have d2 : decide ((48 : Int) ≤ (s[k].toNat : Int)) = false := by simp; omega
                have d4 : ((s[k].toNat : Int) == 45) = false := by simp; omega
                have d5 : ((s[k].toNat : Int) == 95) = false := by simp; omega
                clear hc hq;go_wp2_with fail;go_ret;exact ⟨ret_bool' HF.out.symm, rfl⟩
              · have d1 : decide ((97 : Int) ≤ (s[k].toNat : Int)) = false := by simp; omega
                have d2 : decide ((48 : Int) ≤ (s[k].toNat : Int)) = true := by simp; omega
                have d3 : decide ((s[k].toNat : Int) ≤ 57) = false := by simp; omega
                have d4 : ((s[k].toNat : Int) == 45) = false := by simp; omega
                have d5 : ((s[k].toNat : Int) == 95) = false := by simp; omega
                clear hc hq;go_wp2_with fail;go_ret;exact ⟨ret_bool' HF.out.symm, rfl⟩
              · have d1 : decide ((97 : Int) ≤ (s[k].toNat : Int)) = true := by simp; omega
                have d1' : decide ((s[k].toNat : Int) ≤ 122) = false := by simp; omega
                have d2 : decide ((48 : Int) ≤ (s[k].toNat : Int)) = true := by simp; omega
                have d3 : decide ((s[k].toNat : Int) ≤ 57) = false := by simp; omega
                have d4 : ((s[k].toNat : Int) == 45) = false := by simp; omega
                have d5 : ((s[k].toNat : Int) == 95) = false := by simp; omega
                clear hc hq;go_wp2_with fail;go_ret;exact ⟨ret_bool' HF.out.symm, rfl⟩
            · have HA' : Hid (∀ j (hj : j < s.size), j < k + 1 → keyC s[j] = true) := Lib.hid (fun j hj hjk => by
                rcases Nat.lt_or_ge j k with h | h
                · exact HA.out j hj h
                · have : j = k := by omega
                  subst this; exact hq)
              have hc := keyC_cases hq;rcases hc with hc | hc | hc | hc
              · have d1 : decide ((97 : Int) ≤ (s[k].toNat : Int)) = true := by simp; omega
                have d2 : decide ((s[k].toNat : Int) ≤ 122) = true := by simp; omega
                clear hc hq;go_wp2_with fail;go_round
                case rel => exact ⟨k + 1, by omega, by go_num, HA'⟩
                case measure => simp [intOf]; omega
              · have d1 : decide ((97 : Int) ≤ (s[k].toNat : Int)) = false := by simp; omega
                have d2 : decide ((48 : Int) ≤ (s[k].toNat : Int)) = true := by simp; omega
                have d3 : decide ((s[k].toNat : Int) ≤ 57) = true := by simp; omega
                clear hc hq;go_wp2_with fail;go_round
                case rel => exact ⟨k + 1, by omega, by go_num, HA'⟩
                case measure => simp [intOf]; omega
              · have d1 : decide ((97 : Int) ≤ (s[k].toNat : Int)) = false := by simp; omega
                have d2 : decide ((48 : Int) ≤ (s[k].toNat : Int)) = false := by simp; omega
                have d4 : ((s[k].toNat : Int) == 45) = true := by simp; omega
                clear hc hq;go_wp2_with fail;go_round
                case rel => exact ⟨k + 1, by omega, by go_num, HA'⟩
                case measure => simp [intOf]; omega
              · have d1 : decide ((97 : Int) ≤ (s[k].toNat : Int)) = false := by simp; omega
                have d2 : decide ((48 : Int) ≤ (s[k].toNat : Int)) = true := by simp; omega
                have d3 : decide ((s[k].toNat : Int) ≤ 57) = false := by simp; omega
                have d4 : ((s[k].toNat : Int) == 45) = false := by simp; omega
                have d5 : ((s[k].toNat : Int) == 95) = true := by simp; omega
                clear hc hq;go_wp2_with fail;go_round
                case rel => exact ⟨k + 1, by omega, by go_num, HA'⟩
                case measure => simp [intOf]; omega
          · have HT : Hid (keyB s.data.toList = true) := Lib.hid (by rw [HK.out]; exact all_yes (fun j hj => HA.out j hj (by omega)))
            go_wp2_with fail;go_ret;exact ⟨ret_bool' HT.out.symm, rfl⟩
      · have HF := Lib.hid (keyB_head h0 h2)
        by_cases h4 : 97 ≤ s[0].toNat
        · have c1 : decide ((s[0].toNat : Int) < 97) = false := by simp; omega
          have c2 : decide ((122 : Int) < (s[0].toNat : Int)) = true := by simp; omega
          clear h2
          go_enter Tryz.func122, Tryz.ntmps122
          go_wp2_with fail;go_ret;exact ⟨ret_bool' HF.out.symm, rfl⟩
        · have c1 : decide ((s[0].toNat : Int) < 97) = true := by simp; omega
          clear h2
          go_enter Tryz.func122, Tryz.ntmps122
          go_wp2_with fail;go_ret;exact ⟨ret_bool' HF.out.symm, rfl⟩
    · have HF := Lib.hid (keyB_not (s := s) (by omega))
      have c3 : decide ((40 : Int) < (s.size : Int)) = true := by simp; omega
      go_enter Tryz.func122, Tryz.ntmps122
      go_wp2_with fail;go_ret;exact ⟨ret_bool' HF.out.symm, rfl⟩
  · have HF := Lib.hid (keyB_not (s := s) (by omega))
    have e1 : (s.toList == []) = true := by rw [ByteArray.toList_eq]; simp; have : s.size = 0 := by omega
                                            exact Array.eq_empty_of_size_eq_zero this
    go_enter Tryz.func122, Tryz.ntmps122
    go_wp2_with fail;go_ret;exact ⟨ret_bool' HF.out.symm, rfl⟩

def IdxS (ss : List (List UInt8)) (x : List UInt8) (r : Int) : Prop:=r = -1 ∧ x ∉ ss ∨ ∃ k : Nat,∃ h : k < ss.length,r = k ∧ ss[k] = x ∧ ∀ j (hj : j < ss.length),j < k → ss[j] ≠ x
theorem indexS_any (A : Option Addr) (c lo : Nat) (ss : List (List UInt8)) (x : List UInt8) (w : World) (hr : Row w lo 1 A ss.length (strs ss)) (hl : ss.length ≤ 1000000000) :
  Calls Tryz.prog 159 #[.slice A ss.length c,encStr x] w fun e w' => ∃ r : Int,e = .returned (.int .i64 r) ∧ w = w' ∧ IdxS ss x r:=by
 unfold encStr
 go_enter Tryz.func159,Tryz.ntmps159
 go_wp2_with fail
 go_loop [8] (fun i => ∃ k : Nat,k ≤ ss.length ∧ i = .int .i64 k ∧ Hid (∀ j (hj : j < ss.length),j < k → ss[j] ≠ x)) (fun i => ss.length - (intOf i).toNat)
 case atStart => exact ⟨0,Nat.zero_le _,rfl,Lib.hid (fun _ _ h => absurd h (Nat.not_lt_zero _))⟩
 case round =>
  obtain ⟨k,hk,rfl,HA⟩:=hrel
  by_cases hlt : k < ss.length
  ·obtain ⟨b,off,rfl,_,hbs,c0⟩:=hr.str_at hlt
   by_cases hx : x = ss[k]
   ·have heq:=str_eq hx
    have HE : Hid (ss[k] = x):=Lib.hid hx.symm;unfold encStr at c0;have HZ : Hid (IdxS ss x k):=Lib.hid (.inr ⟨k,hlt,rfl,HE.out,HA.out⟩);generalize ss[k] = z at *
    have heq' : (x == z) = true:=by rw [ByteArray.toList_eq,ByteArray.toList_eq] at heq; simpa using heq
    clear hx;go_wp2_with fail;go_ret;exact ⟨(k : Int),rfl,rfl,HZ.out⟩
   ·have hne:=str_ne hx
    have HB : Hid (∀ j (hj : j < ss.length),j < k + 1 → ss[j] ≠ x):=Lib.hid (fun j hj hjk => by
     rcases Nat.lt_or_ge j k with h | h
     ·exact HA.out j hj h
     ·have : j = k:=by omega
      subst this; exact fun e => hx e.symm)
    unfold encStr at c0;clear hx;generalize ss[k] = z at *
    have hne' : (x == z) = false:=by rw [ByteArray.toList_eq,ByteArray.toList_eq] at hne; simpa using hne
    go_wp2_with fail;go_round
    case rel => exact ⟨k + 1,by omega,by go_num,HB⟩
    case measure => simp [intOf]; omega
  ·have HB : Hid (IdxS ss x (-1)):=Lib.hid (.inl ⟨rfl,fun h => by
    obtain ⟨j,hj,e⟩:=List.getElem_of_mem h
    exact HA.out j hj (by omega) e⟩)
   go_wp2_with fail;go_ret;exact ⟨-1,rfl,rfl,HB.out⟩
theorem containsS_any (A : Option Addr) (c lo : Nat) (ss : List (List UInt8)) (x : List UInt8) (w : World) (hr : Row w lo 1 A ss.length (strs ss)) (hl : ss.length ≤ 1000000000) :
  Calls Tryz.prog 123 #[.slice A ss.length c,encStr x] w fun e w' => e = .returned (.bool (decide (x ∈ ss))) ∧ w = w':=by
 go_enter Tryz.func123,Tryz.ntmps123
 go_wp2_with fail;refine (indexS_any _ _ _ ss x _ hr hl).mono ?_;rintro e w1 ⟨r,rfl,rfl,h⟩
 have HR : Hid (decide (0 ≤ r) = decide (x ∈ ss)):=Lib.hid (by
  rcases h with ⟨rfl,h⟩ | ⟨k,hk,rfl,h,_⟩
  ·simp [h]
  ·have : x ∈ ss:=by rw [← h]; exact List.getElem_mem _
   simp [this])
 clear h;go_wp2_with fail;go_ret;exact ⟨by rw [← HR.out]; rfl,rfl⟩

end Go.Proofs.YtkchacgkjdeiaaaGreatDoor
