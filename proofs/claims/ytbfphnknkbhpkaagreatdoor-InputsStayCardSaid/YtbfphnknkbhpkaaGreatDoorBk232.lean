/- Texts of this seat, laid together: SgD. -/
import Derived.Test.YtbfphnknkbhpkaaGreatDoorBk231
/- The walk of leasts at a history that is right. -/
namespace Go.Proofs.YtbfphnknkbhpkaaGreatDoor
set_option linter.unusedVariables false
set_option linter.unusedSimpArgs false
open Go.RowKit Go.Sort

def OutB (w : World) (g : Nat) (ol : List Int) : Prop:=∃ cs,Blk w g 3 cs ∧ ∀ i (h : i < ol.length),cs[i]? = some (.int .i64 ol[i])
theorem OutB.lt {w : World} {g : Nat} {ol : List Int} (h : OutB w g ol) : g < w.heap.size:=by obtain ⟨cs,h1,_⟩:=h; exact h1.lt
theorem OutB.below {w w' : World} {g : Nat} {ol : List Int} (h : OutB w g ol) (hb : Below w.heap.size w w') : OutB w' g ol:=by obtain ⟨cs,h1,h2⟩:=h; exact ⟨cs,h1.below hb,h2⟩
theorem OutB.alloc {w : World} {g : Nat} {ol : List Int} (h : OutB w g ol) (o : Obj) : OutB (w.alloc o) g ol:=h.below ((Below.refl _ _).alloc (Nat.le_refl _) o)
theorem OutB.drewN {w : World} {g : Nat} {ol : List Int} (h : OutB w g ol) (q : Nat) : OutB (w.drewN q) g ol:=h
theorem OutB.drew {w : World} {g : Nat} {ol : List Int} (h : OutB w g ol) : OutB w.drew g ol:=h
theorem OutB.app {w1 w2 : World} {g base n size : Nat} {e : TypeId} {ol : List Int} {v : Value} {xs : List Value} (hown : w1.ownsRow base e size v n xs) (h : OutB w1 g ol) (hg : w1.grownBy w2 v.ownBlock) (hne : e ≠ 3) : OutB w2 g ol:=by
 obtain ⟨cs,h1,h2⟩:=h; exact ⟨cs,Blk.app hown h1 hg hne,h2⟩
theorem OutB.cell {w : World} {g : Nat} {ol : List Int} (h : OutB w g ol) (i : Nat) (hi : i < ol.length) : w.cell? ⟨g,i,none⟩ = some (.int .i64 ol[i]):=by obtain ⟨cs,h1,h2⟩:=h; rw [h1.cell]; exact h2 i hi
theorem OutB.frz {w : World} {g : Nat} {ol : List Int} (h : OutB w g ol) (i : Nat) : w.frozen? ⟨g,i,none⟩ = false:=by
 obtain ⟨cs,h1,_⟩:=h
 have h' : w.heap[g]? = some (.cells cs 3 (0,0)):=h1
 simp [World.frozen?,h']
theorem OutB.set {w : World} {g : Nat} {ol : List Int} (h : OutB w g ol) (i : Nat) (hi : i < ol.length) (x : Int) : OutB (w.setCell ⟨g,i,none⟩ (.int .i64 x)) g (ol.set i x):=by
 obtain ⟨cs,h1,h2⟩:=h
 have h' : w.heap[g]? = some (.cells cs 3 (0,0)):=h1
 refine ⟨cs.setIfInBounds i (.int .i64 x),?_,fun j hj => ?_⟩
 ·unfold Blk
  simp [World.setCell,Array.getElem?_modify,h']
 ·have hj' : j < ol.length:=by simpa using hj
  have hc:=h2 j hj'
  have hs : j < cs.size:=(Array.getElem?_eq_some_iff.1 hc).1
  rw [Array.getElem?_setIfInBounds,List.getElem_set]
  by_cases e : i = j
  ·subst e; simp [hs]
  ·simp [e,hc]
theorem OutB.keep {w : World} {g : Nat} {ol : List Int} (h : OutB w g ol) : ∀ (k i : Nat) (u : Value),g ≠ k → OutB (w.setCell ⟨k,i,none⟩ u) g ol:=by
 intro k i u hne
 obtain ⟨cs,h1,h2⟩:=h
 have h' : w.heap[g]? = some (.cells cs 3 (0,0)):=h1
 have hne' : ¬ k = g:=fun e => hne e.symm
 refine ⟨cs,?_,h2⟩
 unfold Blk
 simp [World.setCell,Array.getElem?_modify,h',hne']

theorem Row.set_low {w : World} {lo size : Nat} {A : Option Addr} {n : Nat} {xs : List Value} (h : Row w lo size A n xs) (g i : Nat) (u : Value) (hg : g < lo) : Row (w.setCell ⟨g,i,none⟩ u) lo size A n xs :=
 h.keep (by simp) (fun b hl _ => by
  have hne : ¬ g = b:=by omega
  simp [World.setCell,Array.getElem?_modify,hne])
theorem step_facts {ss ys : List Stp} {n k : Nat} (hf : Fwd ss n) (ht : ∀ s ∈ ss,s.2.2 ≤ 864000000) (hn : n ≤ 60) (hp : ys.Perm ss) (hs : ys.Pairwise fun x y => y.1 ≤ x.1) (hk : k < ys.length) :
  ∃ f t : Nat,ys[k].1 = (f : Int) ∧ ys[k].2.1 = (t : Int) ∧ f < t ∧ t ≤ n ∧ 0 ≤ ys[k].2.2 ∧ ys[k].2.2 ≤ 864000000 ∧ outP (lvV ss n) (ys.take k) n t = lvV ss n t ∧ -1 ≤ lvV ss n t ∧ lvV ss n t ≤ 60000000000 ∧
   (0 ≤ lvV ss n t ∧ (outP (lvV ss n) (ys.take k) n f < 0 ∨ ys[k].2.2 + lvV ss n t < outP (lvV ss n) (ys.take k) n f) → outL (lvV ss n) (ys.take (k + 1)) n = (outL (lvV ss n) (ys.take k) n).set f (ys[k].2.2 + lvV ss n t)) ∧
   (¬ (0 ≤ lvV ss n t ∧ (outP (lvV ss n) (ys.take k) n f < 0 ∨ ys[k].2.2 + lvV ss n t < outP (lvV ss n) (ys.take k) n f)) → outL (lvV ss n) (ys.take (k + 1)) n = outL (lvV ss n) (ys.take k) n):=by
 have hm : ys[k] ∈ ss:=hp.mem_iff.1 (List.getElem_mem hk)
 have h1:=hf _ hm
 have h2:=ht _ hm
 have e : ys = ys.take k ++ ys[k] :: ys.drop (k + 1):=by
  rw [List.getElem_cons_drop,List.take_append_drop]
 have hd:=outP_done (p:=ys.take k) (s:=ys[k]) (r:=ys.drop (k + 1)) hf (by rw [← e]; exact hp) (by rw [← e]; exact hs)
 have hv:=lvV_ge hf ys[k].2.1.toNat (by omega)
 have hv2:=lvV_le hf ht (n - ys[k].2.1.toNat) ys[k].2.1.toNat rfl (by omega)
 have hsn:=List.take_succ_eq_append_getElem hk
 refine ⟨ys[k].1.toNat,ys[k].2.1.toNat,by omega,by omega,by omega,by omega,by omega,by omega,hd,hv,by omega,fun h => ?_,fun h => ?_⟩
 ·rw [hsn]; exact outL_set h1.1 (by omega) h
 ·rw [hsn]; exact outL_keep h1.1 (by omega) h

set_option maxHeartbeats 4000000 in
set_option maxRecDepth 100000 in
theorem leasts_ok (p : Nat) (SA TA : Option Addr) (c d lo : Nat) (segs : List (List UInt8)) (atts : List Att) (w : World) (hp : Blk w p 116 #[.slice SA segs.length c,.slice TA atts.length d]) (hh : Hist w lo SA TA segs atts) (hok : HistOk segs atts) :
  Calls Tryz.prog 78 #[.pointer (some ⟨p,0,none⟩)] w fun e w' => ∃ g c',e = .returned (.slice (some ⟨g,0,none⟩) (segs.length + 1) c') ∧ w.heap.size ≤ g ∧ OutB w' g (outL (lvV (stepsA atts) segs.length) (stepsA atts) segs.length) ∧ Below w.heap.size w w':=by
 have n1:=hok.n1
 have n2:=hok.n2
 have m:=hok.m
 have HO:=Lib.hid hok
 obtain ⟨f1,f2,f3⟩:=stepsA_fwd hok
 have HF:=Lib.hid f1
 have HT:=Lib.hid f3
 clear hok f1 f3
 obtain ⟨k0,k1⟩:=hp.two_
 have hzp:=hp.lt
 have HE : Hid (List.replicate segs.length (-1 : Int) ++ [0] = outL (lvV (stepsA atts) segs.length) [] segs.length):=Lib.hid (outL_nil _ _).symm
 go_enter Tryz.func78,Tryz.ntmps78
 go_wp2_with fail
 have hrep:=repeat_any _ 1 w.heap.size (-1) (segs.length + 1) _ (row_new w #[.int .i64 (-1)] 3 w.heap.size 1 1 (Nat.le_refl _) rfl) (by omega)
 rw [Int.natCast_add] at hrep
 refine hrep.mono ?_
 clear hrep
 rintro e w1 ⟨A1,c1,rfl,hown1,hb1⟩
 have hx1 : Below w.heap.size w w1:=((Below.refl _ _).alloc (Nat.le_refl _) _).trans (hb1.mono (by simp))
 obtain ⟨g,cs,rfl,hg,hblk,hcs,hsz⟩:=own_blkS hown1 (by omega)
 have hob : OutB w1 g (List.replicate (segs.length + 1) (-1)):=⟨cs,hblk,fun i hi => by rw [hcs i (by simpa using hi)]; simp at hi; simp [hi]⟩
 have hg' : w.heap.size ≤ g:=by simp at hg; omega
 clear hown1 hb1 hblk hcs hsz hg cs
 have cn:=hob.cell segs.length (by simp)
 have fn:=hob.frz segs.length
 have hob2:=hob.set segs.length (by simp) 0
 have e9 : (List.replicate (segs.length + 1) (-1 : Int)).set segs.length 0 = List.replicate segs.length (-1) ++ [0]:=by
  rw [List.replicate_succ',List.set_append_right _ _ (by simp)]; simp
 rw [e9,HE.out] at hob2
 have hx2 : Below w.heap.size w (w1.setCell ⟨g,segs.length,none⟩ (.int .i64 0)):=Below.setCell hx1 (by simpa using hg') _
 have hcap : segs.length < segs.length + 1:=by omega
 clear e9 HE
 go_upto_region 5 with (fail)
 have hpx : Blk (w1.setCell ⟨g,segs.length,none⟩ (.int .i64 0)) p 116 #[.slice SA segs.length c,.slice TA atts.length d]:=(hx2.block p hzp).trans hp
 have hhx:=hh.below hx2
 have hgx:=hob2.lt
 have hzx:=hx2.size
 clear hob cn fn hx1 hp hh k0 k1
 generalize w1.setCell ⟨g,segs.length,none⟩ (.int .i64 0) = W at *
 obtain ⟨k0,k1⟩:=hpx.two_
 have hpW:=hpx.lt
 go_wp2_with fail
 go_loopw [5,32] (fun v i wr => ∃ (k : Nat) (A' : Option Addr) (c' : Nat),k ≤ atts.length ∧ i = .int .i64 k ∧ v = .slice A' (stepsA (atts.take k)).length c' ∧ wr.ownsRow W.heap.size 219 3 (.slice A' (stepsA (atts.take k)).length c') (stepsA (atts.take k)).length (trs (stepsA (atts.take k))) ∧ Below W.heap.size W wr) (fun _ i _ => atts.length - (intOf i).toNat)
 case atStart => exact ⟨0,none,0,Nat.zero_le _,rfl,rfl,World.ownsRow_nil _ _ _ _,Below.refl _ _⟩
 case round =>
  obtain ⟨k,A',c',hk,rfl,rfl,hown,hbw⟩:=hrel
  have hz:=hbw.size
  by_cases hlt : k < atts.length
  ·obtain ⟨b,off,B,cB,rfl,hbs,c0W,c1W,hrB⟩:=hhx.att hlt
   have c0:=(hbw.cell (p:=⟨b,off + k * 2,none⟩) hbs).trans c0W
   have c1':=(hbw.cell (p:=⟨b,off + k * 2 + 1,none⟩) hbs).trans c1W
   clear c0W c1W
   have HTK:=Lib.hid (stepsA_take atts k hlt)
   have HSP:=Lib.hid (HO.out.spl k hlt)
   have hsl:=HSP.out.len
   have hpl : (stepsA (atts.take k)).length ≤ 30000:=by
    have h1 : (stepsA (atts.take k)).length ≤ (stepsA atts).length:=by
     have : stepsA atts = stepsA (atts.take k) ++ stepsA (atts.drop k):=by unfold stepsA; rw [← List.flatMap_append,List.take_append_drop]
     rw [this]; simp
    omega
   have hownA:=hown.alloc (.cells #[.int .i64 atts[k].1,.slice B atts[k].2.length cB] 113)
   have hbwA : Below W.heap.size W (wr.alloc (.cells #[.int .i64 atts[k].1,.slice B atts[k].2.length cB] 113)):=(by repeat (first | exact hbw | refine Below.alloc ?_ (by first | omega | (simp; omega)) _ | refine below_drewN' ?_ _ | refine Below.drew ?_))
   have HSO : Hid (stepsOf atts[k].2 = (stS atts[k].2 atts[k].2.length).2.2):=Lib.hid rfl
   generalize stepsA (atts.take k) = o at *
   generalize hx9 : atts[k].1 = no at *
   generalize hl9 : atts[k].2 = l at *
   clear hx9 hl9
   go_wp2_with fail
   have HIV:=Lib.hid (fun j hj => stS_inv HSP.out j hj)
   generalize wr.alloc (.cells #[.int .i64 no,.slice B l.length cB] 113) = Wa at *
   go_loopw [5,8,9,39] (fun v fr tm i wr => ∃ (j : Nat) (A2 : Option Addr) (c2 : Nat),j ≤ l.length ∧ i = .int .i64 j ∧ fr = .int .i64 (stS l j).1 ∧ tm = .int .i64 (stS l j).2.1 ∧ v = .slice A2 (o ++ (stS l j).2.2).length c2 ∧ wr.ownsRow W.heap.size 219 3 (.slice A2 (o ++ (stS l j).2.2).length c2) (o ++ (stS l j).2.2).length (trs (o ++ (stS l j).2.2)) ∧ Below W.heap.size W wr) (fun _ _ _ i _ => l.length - (intOf i).toNat)
   case atStart => exact ⟨0,A',c',Nat.zero_le _,rfl,rfl,rfl,by simp [stS],by simpa [stS] using hownA,hbwA⟩
   case round =>
    clear hownA hbwA hown hbw
    obtain ⟨j,A2,c2,hj,rfl,rfl,rfl,rfl,hown2,hbw2⟩:=hrel
    have z2:=hbw2.size
    obtain ⟨i1,i2,i3,i4,i5⟩:=HIV.out j hj
    by_cases hjl : j < l.length
    ·obtain ⟨bB,oB,rfl,_,hbB,cj⟩:=(hrB.below hbw2).int_at hjl
     obtain ⟨x0,x1⟩:=HSP.out.bd j hjl
     have u:=HSP.out.up j hjl
     have g0:=sgM_nonneg (l.take j)
     have HY:=Lib.hid (stS_yes l j hjl)
     have HN:=Lib.hid (stS_no l j hjl)
     have HU:=Lib.hid u
     rw [← i3] at g0
     have HI3:=Lib.hid i3
     clear i5 i3 u
     generalize hx9 : l[j] = x at *
     generalize hs9 : stS l j = s at *
     clear hs9 hx9
     by_cases hx : x = 0
     ·have HE:=Lib.hid (HN.out hx)
      have d1 : (x != 0) = false:=by simpa using hx
      clear hx HY HN HU
      go_wp2_with fail
      go_roundw
      case rel => exact ⟨j + 1,A2,c2,by omega,by go_num,by rw [HE.out],by rw [HE.out],by rw [HE.out],by rw [HE.out]; exact hown2,hbw2⟩
      case measure => simp [intOf]; omega
     ·have HE:=Lib.hid (HY.out hx)
      have hu:=HU.out hx
      rw [← HI3.out] at hu
      have d1 : (x != 0) = true:=by simpa using hx
      have hol : (o ++ s.2.2).length ≤ 31000:=by rw [List.length_append]; omega
      have HA : Hid (o ++ (s.2.2 ++ [(s.1,(j : Int) + 1,x - s.2.1)]) = (o ++ s.2.2) ++ [(s.1,(j : Int) + 1,x - s.2.1)]):=Lib.hid (by rw [List.append_assoc])
      clear hx HY HN HU HI3
      generalize o ++ s.2.2 = o2 at *
      go_wp2_with (at_builtin; go_must (refine wpList_app (lo:=W.heap.size) (base:=W.heap.size) (n:=o2.length) (xs:=trs o2) _ _ rfl _ _ ty_stepsS rfl (by repeat (first | exact hown2 | refine World.ownsRow.alloc ?_ _ | refine own_drewN ?_ _ | refine World.ownsRow.drew ?_)) rfl (by first | exact row_new' _ (by first | rfl | simp) (by first | omega | (simp; omega)) rfl | exact row_newN _ _ (by first | rfl | simp) (by first | omega | (simp; omega)) rfl | exact row_newD _ (by first | rfl | simp) (by first | omega | (simp; omega)) rfl) rfl rfl (by first | omega | decide) (by first | omega | decide) (by first | omega | (simp; omega)) ?_))
      intro A5 c5 w5 hown5 hg5 _
      have hb5 : Below W.heap.size W w5:=below_app hown2 (by repeat (first | exact hbw2 | refine Below.alloc ?_ (by first | omega | (simp; omega)) _ | refine below_drewN' ?_ _ | refine Below.drew ?_)) hg5 (Nat.le_refl _) (by simp; omega)
      go_wp2_with fail
      go_roundw
      case rel => exact ⟨j + 1,A5,c5,by omega,by go_num,by rw [HE.out],by rw [HE.out],by rw [HE.out,HA.out]; simp,by rw [HE.out,HA.out,trs_app,List.length_append]; exact hown5,hb5⟩
      case measure => simp [intOf]; omega
    ·have hjn : j = l.length:=by omega
     have HF2 : Hid (stepsA (atts.take (k + 1)) = o ++ (stS l j).2.2):=Lib.hid (by rw [HTK.out,HSO.out,hjn])
     clear hjn i5
     go_wp2_with fail
     go_roundw
     case rel => exact ⟨k + 1,A2,c2,by omega,by go_num,by rw [HF2.out],by rw [HF2.out]; exact hown2,hbw2⟩
     case measure => simp [intOf]; omega
  ·have hkn : k = atts.length:=by omega
   have HA : Hid (stepsA (atts.take k) = stepsA atts):=Lib.hid (by rw [hkn,List.take_length])
   rw [HA.out] at hown
   rw [HA.out]
   clear hkn HA
   have hobw:=hob2.below hbw
   go_wp2_with fail
   refine (sortS_any _ _ _ _ _ hown (by omega)).mono ?_
   rintro e w5 ⟨rfl,ys,hperm,hpair,hown5,hg5⟩
   have hob5:=OutB.app hown hobw hg5 (by decide)
   have hb5 : Below W.heap.size W w5:=hbw.grown hg5 hbw.size (fun k hk => (hown.lt k hk).1)
   have HP:=Lib.hid hperm
   have HS:=Lib.hid hpair
   have hyl : ys.length = (stepsA atts).length:=hperm.length_eq
   have HYL:=Lib.hid hyl
   have z5:=hb5.size
   rw [← hyl]
   clear hperm hpair hyl hown hobw hg5 hbw
   have HSF:=Lib.hid (fun k hk => step_facts (k:=k) HF.out HT.out n2 HP.out HS.out hk)
   have HLV:=Lib.hid (outL_len (lvV (stepsA atts) segs.length) ys segs.length)
   have HLT:=Lib.hid (fun k => outL_len (lvV (stepsA atts) segs.length) (ys.take k) segs.length)
   have HAT:=Lib.hid (fun k => outL_at (lvV (stepsA atts) segs.length) (ys.take k) segs.length)
   have HALL : Hid (outL (lvV (stepsA atts) segs.length) ys segs.length = outL (lvV (stepsA atts) segs.length) (stepsA atts) segs.length):=Lib.hid (by
    unfold outL
    refine List.map_congr_left fun i hi => ?_
    have hi' : i ≤ segs.length:=by have:=List.mem_range.1 hi; omega
    rw [outP_all HF.out HP.out i hi',outP_all HF.out (List.Perm.refl _) i hi'])
   have hyb : ys.length ≤ 30000:=by have:=HYL.out; omega
   generalize hV : lvV (stepsA atts) segs.length = V at *
   have HV:=Lib.hid hV
   clear hV
   go_wp2_with fail
   go_loopw [65] (fun i wr => ∃ (k : Nat),k ≤ ys.length ∧ i = .int .i64 k ∧ OutB wr g (outL V (ys.take k) segs.length) ∧ Row wr W.heap.size 3 A' ys.length (trs ys) ∧ Below w.heap.size w wr) (fun i _ => ys.length - (intOf i).toNat)
   case atStart => exact ⟨0,Nat.zero_le _,rfl,hob5,Row.of_own hown5,hx2.trans (hb5.mono hzx)⟩
   case round =>
    clear hob5 hown5 hb5
    obtain ⟨k,hk,rfl,hob,hrs,hbw⟩:=hrel
    have hgr:=hob.lt
    by_cases hlt : k < ys.length
    ·obtain ⟨b,off,rfl,hlo,hbs,c0,c1',c2⟩:=hrs.tr_at hlt
     obtain ⟨f,t,e1,e2,ft,tn,d0,d1,hd,v0,v1,hyes,hno⟩:=HSF.out k hlt
     have hll:=HLT.out k
     have ct:=hob.cell t (by omega)
     rw [HAT.out k t (by omega),hd] at ct
     have cf:=hob.cell f (by omega)
     rw [HAT.out k f (by omega)] at cf
     have ff:=hob.frz f
     rw [e1] at c0
     rw [e2] at c1'
     have HYES:=Lib.hid hyes
     have HNO:=Lib.hid hno
     generalize outP V (ys.take k) segs.length f = of at *
     generalize V t = vt at *
     generalize ys[k].2.2 = dd at *
     clear hyes hno hd e1 e2
     have hrsA:=hrs.alloc (.cells #[.int .i64 f,.int .i64 t,.int .i64 dd] 219)
     have hobA:=hob.alloc (.cells #[.int .i64 f,.int .i64 t,.int .i64 dd] 219)
     have hbwA : Below w.heap.size w (wr.alloc (.cells #[.int .i64 f,.int .i64 t,.int .i64 dd] 219)):=(by repeat (first | exact hbw | refine Below.alloc ?_ (by first | omega | (simp; omega)) _ | refine below_drewN' ?_ _ | refine Below.drew ?_))
     have t1 : (t : Int) < (segs.length : Int) + 1:=by omega
     have t2 : (f : Int) < (segs.length : Int) + 1:=by omega
     have wr1 : IntKind.i64.wrap (dd + vt) = dd + vt:=IntWalk.i64_in _ (by omega)
     by_cases hc : 0 ≤ vt ∧ (of < 0 ∨ dd + vt < of)
     ·have HE:=Lib.hid (HYES.out hc)
      have hset:=hobA.set f (by omega) (dd + vt)
      obtain ⟨h1,h2⟩:=hc
      have q1 : decide (0 ≤ vt) = true:=by simpa using h1
      by_cases h3 : of < 0
      ·have q2 : decide (of < 0) = true:=by simpa using h3
       clear h2
       go_wp2_with fail
       go_quiet (fail)
       clear wr1
       go_wp2_with fail
       go_roundw
       case rel => exact ⟨k + 1,by omega,by go_num,by rw [HE.out]; exact OutB.set (hobA.drewN _) f (by omega) _,Row.set_low (Row.drewN hrsA _) g f _ hgx,Below.setCell (below_drewN' hbwA _) (by simpa using hg') _⟩
       case measure => simp [intOf]; omega
      ·have q2 : decide (of < 0) = false:=by simpa using h3
       have q3 : decide (dd + vt < of) = true:=by simp; omega
       clear h2
       go_wp2_with fail
       go_quiet (fail)
       clear wr1
       go_wp2_with fail
       go_roundw
       case rel => exact ⟨k + 1,by omega,by go_num,by rw [HE.out]; exact OutB.set (hobA.drewN _) f (by omega) _,Row.set_low (Row.drewN hrsA _) g f _ hgx,Below.setCell (below_drewN' hbwA _) (by simpa using hg') _⟩
       case measure => simp [intOf]; omega
     ·have HE:=Lib.hid (HNO.out hc)
      have HC:=Lib.hid hc
      clear hc
      by_cases h1 : 0 ≤ vt
      ·have q1 : decide (0 ≤ vt) = true:=by simpa using h1
       have q2 : decide (of < 0) = false:=by simp; have:=HC.out; omega
       have q3 : decide (dd + vt < of) = false:=by simp; have:=HC.out; omega
       go_wp2_with fail
       go_quiet (fail)
       clear wr1
       go_wp2_with fail
       go_roundw
       case rel => exact ⟨k + 1,by omega,by go_num,by rw [HE.out]; exact hobA.drewN _,Row.drewN hrsA _,below_drewN' hbwA _⟩
       case measure => simp [intOf]; omega
      ·have q1 : decide (0 ≤ vt) = false:=by simpa using h1
       go_wp2_with fail
       go_quiet (fail)
       clear wr1
       go_wp2_with fail
       go_roundw
       case rel => exact ⟨k + 1,by omega,by go_num,by rw [HE.out]; exact hobA.drewN _,Row.drewN hrsA _,below_drewN' hbwA _⟩
       case measure => simp [intOf]; omega
    ·have hkn : k = ys.length:=by omega
     have HL : Hid (ys.take k = ys):=Lib.hid (by rw [hkn,List.take_length])
     rw [HL.out] at hob
     clear hkn HL
     go_wp2_with fail
     go_ret
     rw [HV.out,← HALL.out]
     exact ⟨g,c1,rfl,hg',hob,hbw⟩
end Go.Proofs.YtbfphnknkbhpkaaGreatDoor
