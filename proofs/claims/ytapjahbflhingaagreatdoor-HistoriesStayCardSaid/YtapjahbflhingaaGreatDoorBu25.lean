/- Texts of this seat, laid together: Hsz Ht Et. -/
import Derived.Test.YtapjahbflhingaaGreatDoorBu23
import Derived.Test.YtapjahbflhingaaGreatDoorBu11
import Derived.Test.YtapjahbflhingaaGreatDoorBu13
/- The sizes of a history. -/
namespace Go.Proofs.YtapjahbflhingaaGreatDoor
set_option linter.unusedVariables false
set_option linter.unusedSimpArgs false

structure HistSz (segs : List (List UInt8)) (atts : List Att) (c : Nat) : Prop where
  hc : segs.length ≤ c
  h9 : segs.length ≤ 1000000000
  h8 : atts.length ≤ 1000000000
  h7 : ∀ i (h : i < atts.length), atts[i].2.length ≤ 1000000000
  h6 : ∀ s ∈ segs, s.length ≤ 1000000000
end Go.Proofs.YtapjahbflhingaaGreatDoor
/- The walk of the stream's function that draws a history that is right. -/
namespace Go.Proofs.YtapjahbflhingaaGreatDoor
set_option linter.unusedVariables false
set_option linter.unusedSimpArgs false
open Go.RowKit Go.Sort

def RightHPost (w : World) (g N : Nat) (e : Ending) (w' : World) : Prop :=
 ∃ (SA TA : Option Addr) (c d : Nat) (segs : List (List UInt8)) (atts : List Att),e = .returned (.agg #[.slice SA segs.length c,.slice TA atts.length d]) ∧ Hist w' w.heap.size SA TA segs atts ∧ segs.length ≤ c ∧ segs.length ≤ 4 ∧ atts.length ≤ 7 ∧ (∀ i (h : i < atts.length),atts[i].2.length ≤ 4) ∧ HistOk segs atts ∧ Str w' g N ∧ w.grownBy w' (some g)
theorem Hist.two {w : World} {lo r : Nat} {SA TA : Option Addr} {segs : List (List UInt8)} {atts : List Att} {t : TypeId} {cs : Array Value} (h : Hist w lo SA TA segs atts) (hr : Blk w r t cs) (hlo : r < lo) (u v : Value) : Hist ((w.setCell ⟨r,0,none⟩ u).setCell ⟨r,1,none⟩ v) lo SA TA segs atts :=
 h.stream (g:=r) (grown_set (grown_set (World.grownBy.refl w _) 0 u) 1 v) hlo
theorem aa_ok : HistOk [[97,97]] []:=⟨by decide,by decide,by decide,by decide,by decide,fun i h => by simp at h,fun i h => by simp at h,fun i h => by simp at h⟩
set_option maxHeartbeats 4000000 in
theorem rightHistory_any (g N : Nat) (w : World) (hs : Str w g N) (hN : N < 4611686018425000000) :
  Calls Tryz.prog 22 #[.pointer (some ⟨g,0,none⟩)] w (RightHPost w g (N + 3000)):=by
 have hlt:=hs.lt
 go_enter Tryz.func22,Tryz.ntmps22
 go_wp2_with fail
 have hs0:=hs.alloc (.cells #[.slice none 0 0,.slice none 0 0] 29)
 have hres : Blk (w.alloc (.cells #[.slice none 0 0,.slice none 0 0] 29)) w.heap.size 29 #[.slice none 0 0,.slice none 0 0]:=Blk.new _ _ _
 have hgr0 : w.grownBy (w.alloc (.cells #[.slice none 0 0,.slice none 0 0] 29)) (some g):=World.grownBy_alloc _ _ _
 generalize w.alloc (.cells #[.slice none 0 0,.slice none 0 0] 29) = w0 at *
 go_loopw [4] (fun i wr => ∃ k : Nat,k ≤ 8 ∧ i = .int .i64 k ∧ Blk wr w.heap.size 29 #[.slice none 0 0,.slice none 0 0] ∧ Str wr g (N + 320 * k) ∧ w.grownBy wr (some g)) (fun i _ => 8 - (intOf i).toNat)
 case atStart => exact ⟨0,by omega,rfl,hres,hs0,hgr0⟩
 case round =>
  clear hres hs0 hgr0
  obtain ⟨k,hk,rfl,hres,hsr,hgr⟩:=hrel
  have hzr:=hres.lt
  by_cases hk8 : k < 8
  ·have d8 : decide ((k : Int) < 8) = true:=by simp; omega
   go_wp2_with fail
   refine (history_any g _ _ hsr (by omega)).mono ?_
   rintro e w1 ⟨SA,TA,c,d,segs,atts,rfl,hh,hc,n1,n4,hm,hl,hsl,hs1,hg1⟩
   have hz9 : HistSz segs atts c:=⟨hc,by omega,by omega,fun i h => by have:=hl i h; omega,fun s hs => by have:=hsl s hs; omega⟩
   have hres1:=hres.stream hg1 hlt
   have hgr1:=grown_trans' hgr hg1
   have HL:=Lib.hid hl
   clear hl hsl hres hsr hg1
   go_wp2_with fail
   have hh1:=hh.alloc (.cells #[.slice SA segs.length c,.slice TA atts.length d] 29)
   have hk1 : Blk (w1.alloc (.cells #[.slice SA segs.length c,.slice TA atts.length d] 29)) w1.heap.size 29 #[.slice SA segs.length c,.slice TA atts.length d]:=Blk.new _ _ _
   have hres1:=hres1.alloc (.cells #[.slice SA segs.length c,.slice TA atts.length d] 29)
   have hs1:=hs1.alloc (.cells #[.slice SA segs.length c,.slice TA atts.length d] 29)
   have hgr1:=grown_alloc hgr1 (.cells #[.slice SA segs.length c,.slice TA atts.length d] 29)
   generalize w1.alloc (.cells #[.slice SA segs.length c,.slice TA atts.length d] 29) = w2 at *
   generalize w1.heap.size = bx at *
   refine (historyFault_any _ _ _ _ _ segs atts _ hh1 hz9.hc hz9.h9 hz9.h8 hz9.h7 hz9.h6).mono ?_
   rintro e w3 ⟨rfl,hb3⟩
   have hh3:=hh1.below hb3
   have hk3:=hk1.below hb3
   have hres3:=hres1.below hb3
   have hs3:=hs1.keep hb3
   have hgr3:=grown_trans' hgr1 (grown_of_below hb3 _)
   clear hh hh1 hk1 hres1 hs1 hgr1 hb3
   by_cases hf : histF segs atts = 0
   ·have HO:=Lib.hid (histF_ok hf)
    rw [hf]
    clear hf
    obtain ⟨q0,q1⟩:=hk3.two_
    have qz:=hk3.lt
    obtain ⟨r0,r1⟩:=hres3.two_
    have rz:=hres3.lt
    have rf0:=hres3.thaw 0
    have rf1:=hres3.thaw 1
    obtain ⟨z0,z1,z2⟩:=hres3.two2 (.slice SA segs.length c) (.slice TA atts.length d)
    have hgs:=grown_set_new (grown_set_new hgr3 (p:=⟨w.heap.size,0,none⟩) (by simp) (.slice SA segs.length c)) (p:=⟨w.heap.size,1,none⟩) (by simp) (.slice TA atts.length d)
    have hss:=(hs3.set (p:=⟨w.heap.size,0,none⟩) hlt (.slice SA segs.length c)).set (p:=⟨w.heap.size,1,none⟩) hlt (.slice TA atts.length d)
    have hht:=hh3.two hres3 (by omega) (.slice SA segs.length c) (.slice TA atts.length d)
    have hzz:=hgr.size
    have HHT:=Lib.hid hht
    have HGS:=Lib.hid hgs
    have HSS:=Lib.hid hss
    clear hht hgs hss hh3 hk3 hres3 hs3 hgr3
    go_wp2_with fail
    refine bodyPost_ret (v:=.agg #[.slice SA segs.length c,.slice TA atts.length d]) (by simp [results,Tryz.results22,go_sem,z0,z1,z2]) rfl ?_
    exact ⟨SA,TA,c,d,segs,atts,rfl,HHT.out.weak hzz,hc,n4,hm,HL.out,HO.out,HSS.out.more (by omega),HGS.out⟩
   ·have d5 : (histF segs atts == 0) = false:=by simpa using hf
    clear hf
    generalize histF segs atts = ef at *
    obtain ⟨q0,q1⟩:=hk3.two_
    have qz:=hk3.lt
    go_wp2_with fail
    go_roundw
    case rel => exact ⟨k + 1,by omega,by go_num,hres3,hs3.more (by omega),hgr3⟩
    case measure => simp [intOf]; omega
  ·have d8 : decide ((k : Int) < 8) = false:=by simp; omega
   obtain ⟨r0,r1⟩:=hres.two_
   have rz:=hres.lt
   have rf0:=hres.thaw 0
   have rf1:=hres.thaw 1
   obtain ⟨z0,z1,z2⟩:=hres.two2 (.slice (some ⟨wr.heap.size,0,none⟩) 1 1) (.slice none 0 0)
   have z0:=cell_al z0 (.cells #[.string ⟨#[97,97]⟩] 9)
   have z1:=cell_al z1 (.cells #[.string ⟨#[97,97]⟩] 9)
   have hgs:=grown_alloc (grown_set_new (grown_set_new hgr (p:=⟨w.heap.size,0,none⟩) (by simp) (.slice (some ⟨wr.heap.size,0,none⟩) 1 1)) (p:=⟨w.heap.size,1,none⟩) (by simp) (.slice none 0 0)) (.cells #[.string ⟨#[97,97]⟩] 9)
   have hss:=((hsr.set (p:=⟨w.heap.size,0,none⟩) hlt (.slice (some ⟨wr.heap.size,0,none⟩) 1 1)).set (p:=⟨w.heap.size,1,none⟩) hlt (.slice none 0 0)).alloc (.cells #[.string ⟨#[97,97]⟩] 9)
   have hlit : Blk (((wr.setCell ⟨w.heap.size,0,none⟩ (.slice (some ⟨wr.heap.size,0,none⟩) 1 1)).setCell ⟨w.heap.size,1,none⟩ (.slice none 0 0)).alloc (.cells #[.string ⟨#[97,97]⟩] 9)) wr.heap.size 9 #[.string ⟨#[97,97]⟩]:=by
    have:=Blk.new ((wr.setCell ⟨w.heap.size,0,none⟩ (.slice (some ⟨wr.heap.size,0,none⟩) 1 1)).setCell ⟨w.heap.size,1,none⟩ (.slice none 0 0)) 9 #[.string ⟨#[97,97]⟩]
    simpa using this
   have hrow : Hist (((wr.setCell ⟨w.heap.size,0,none⟩ (.slice (some ⟨wr.heap.size,0,none⟩) 1 1)).setCell ⟨w.heap.size,1,none⟩ (.slice none 0 0)).alloc (.cells #[.string ⟨#[97,97]⟩] 9)) w.heap.size (some ⟨wr.heap.size,0,none⟩) none [[97,97]] []:=⟨Row.lit (n:=1) (size:=1) hlit (by omega) rfl,[],Row.none_ _ _ _ _,fun i h => by simp at h⟩
   have Z:=Lib.hid (And.intro z0 (And.intro z1 z2))
   have HHT:=Lib.hid hrow
   have HGS:=Lib.hid hgs
   have HSS:=Lib.hid hss
   clear hgs hss hrow hlit z0 z1 z2
   go_wp2_with fail
   obtain ⟨z0,z1,z2⟩:=Z.out
   refine bodyPost_ret (v:=.agg #[.slice (some ⟨wr.heap.size,0,none⟩) 1 1,.slice none 0 0]) (by simp only [results,Tryz.results22,go_sem]; simp [go_sem,z0,z1]) rfl ?_
   exact ⟨some ⟨wr.heap.size,0,none⟩,none,1,0,[[97,97]],[],rfl,HHT.out,by simp,by simp,by simp,fun i h => by simp at h,aa_ok,HSS.out.more (by omega),HGS.out⟩
end Go.Proofs.YtapjahbflhingaaGreatDoor
/- The walks of the stream's functions that draw a history that is right, and splits of a run: what they hand out, as a function of the numbers. -/
namespace Go.Proofs.YtapjahbflhingaaGreatDoor
set_option linter.unusedVariables false
set_option linter.unusedSimpArgs false
open Go.RowKit Go.Sort
variable {sB : Nat}

def rhF (L : List Int) : Nat → Nat → List (List UInt8) × List Att × Nat
 | 0,k => ([[97,97]],[],k)
 | t + 1,k => if histF (hsF L k).1 (hsF L k).2.1 = 0 then hsF L k else rhF L t (hsF L k).2.2
def RightHE (w : World) (g sB : Nat) (L : List Int) (k : Nat) (e : Ending) (w' : World) : Prop :=
 ∃ (SA TA : Option Addr) (c d : Nat) (segs : List (List UInt8)) (atts : List Att),e = .returned (.agg #[.slice SA segs.length c,.slice TA atts.length d]) ∧ Hist w' w.heap.size SA TA segs atts ∧ segs.length ≤ c ∧ segs.length ≤ 4 ∧ atts.length ≤ 7 ∧ (∀ i (h : i < atts.length),atts[i].2.length ≤ 4) ∧ HistOk segs atts ∧ (∃ k',StrE w' g sB L k' ∧ k' ≤ k + 3000 ∧ Hid (rhF L 8 k = (segs,atts,k'))) ∧ w.grownBy w' (some g)
def liF (L : List Int) (k many : Nat) : List Int × Nat:=if nx L (trF L k many).2 20 = 0 then ((trF L k many).1 ++ [pk L ((trF L k many).2 + 1) [0,1000,5]],(trF L k many).2 + 2) else ((trF L k many).1,(trF L k many).2 + 1)
def LiveE (w : World) (g sB : Nat) (L : List Int) (k n : Nat) (e : Ending) (w' : World) : Prop :=
 ∃ (A : Option Addr) (c : Nat) (l : List Int),e = .returned (.slice A l.length c) ∧ w'.ownsRow w.heap.size 3 1 (.slice A l.length c) l.length (ints l) ∧ l.length ≤ n + 1 ∧ (∃ k',StrE w' g sB L k' ∧ k' ≤ k + 12 + 2 * n ∧ Hid (liF L k n = (l,k'))) ∧ w.grownBy w' (some g)
set_option maxHeartbeats 4000000 in
set_option maxRecDepth 100000 in
theorem rightHistory_ex (g k0 : Nat) (L : List Int) (w : World) (hs : StrE w g sB L k0) (hN : k0 < 4611686018425000000) :
  Calls Tryz.prog 22 #[.pointer (some ⟨g,0,none⟩)] w (RightHE w g sB L k0):=by
 have hlt:=hs.lt
 go_enter Tryz.func22,Tryz.ntmps22
 go_wp2_with fail
 have hs0:=hs.alloc (.cells #[.slice none 0 0,.slice none 0 0] 29)
 have hres : Blk (w.alloc (.cells #[.slice none 0 0,.slice none 0 0] 29)) w.heap.size 29 #[.slice none 0 0,.slice none 0 0]:=Blk.new _ _ _
 have hgr0 : w.grownBy (w.alloc (.cells #[.slice none 0 0,.slice none 0 0] 29)) (some g):=World.grownBy_alloc _ _ _
 generalize w.alloc (.cells #[.slice none 0 0,.slice none 0 0] 29) = w0 at *
 go_loopw [4] (fun i wr => ∃ k : Nat,k ≤ 8 ∧ i = .int .i64 k ∧ Blk wr w.heap.size 29 #[.slice none 0 0,.slice none 0 0] ∧ (∃ kk,StrE wr g sB L kk ∧ kk ≤ k0 + 320 * k ∧ Hid (rhF L 8 k0 = rhF L (8 - k) kk)) ∧ w.grownBy wr (some g)) (fun i _ => 8 - (intOf i).toNat)
 case atStart => exact ⟨0,by omega,rfl,hres,⟨k0,hs0,by omega,Lib.hid rfl⟩,hgr0⟩
 case round =>
  clear hres hs0 hgr0
  obtain ⟨k,hk,rfl,hres,⟨kk,hsr,hkk,HK⟩,hgr⟩:=hrel
  have hzr:=hres.lt
  by_cases hk8 : k < 8
  ·have d8 : decide ((k : Int) < 8) = true:=by simp; omega
   go_wp2_with fail
   refine (history_ex g _ L _ hsr (by omega)).mono ?_
   rintro e w1 ⟨SA,TA,c,d,segs,atts,rfl,hh,hc,n1,n4,hm,hl,hsl,⟨k2,hs1,hk2,HH⟩,hg1⟩
   have hz9 : HistSz segs atts c:=⟨hc,by omega,by omega,fun i h => by have:=hl i h; omega,fun s hs => by have:=hsl s hs; omega⟩
   have hres1:=hres.stream hg1 hlt
   have hgr1:=grown_trans' hgr hg1
   have HL:=Lib.hid hl
   clear hl hsl hres hsr hg1
   go_wp2_with fail
   have hh1:=hh.alloc (.cells #[.slice SA segs.length c,.slice TA atts.length d] 29)
   have hk1 : Blk (w1.alloc (.cells #[.slice SA segs.length c,.slice TA atts.length d] 29)) w1.heap.size 29 #[.slice SA segs.length c,.slice TA atts.length d]:=Blk.new _ _ _
   have hres1:=hres1.alloc (.cells #[.slice SA segs.length c,.slice TA atts.length d] 29)
   have hs1:=hs1.alloc (.cells #[.slice SA segs.length c,.slice TA atts.length d] 29)
   have hgr1:=grown_alloc hgr1 (.cells #[.slice SA segs.length c,.slice TA atts.length d] 29)
   generalize w1.alloc (.cells #[.slice SA segs.length c,.slice TA atts.length d] 29) = w2 at *
   generalize w1.heap.size = bx at *
   refine (historyFault_any _ _ _ _ _ segs atts _ hh1 hz9.hc hz9.h9 hz9.h8 hz9.h7 hz9.h6).mono ?_
   rintro e w3 ⟨rfl,hb3⟩
   have hh3:=hh1.below hb3
   have hk3:=hk1.below hb3
   have hres3:=hres1.below hb3
   have hs3:=hs1.keep hb3
   have hgr3:=grown_trans' hgr1 (grown_of_below hb3 _)
   clear hh hh1 hk1 hres1 hs1 hgr1 hb3
   have HRF : Hid (rhF L (8 - k) kk = if histF segs atts = 0 then (segs,atts,k2) else rhF L (8 - (k + 1)) k2):=Lib.hid (by
    rw [show 8 - k = (8 - (k + 1)) + 1 by omega]
    simp only [rhF,HH.out])
   by_cases hf : histF segs atts = 0
   ·have HRD : Hid (rhF L 8 k0 = (segs,atts,k2)):=Lib.hid (by rw [HK.out,HRF.out,if_pos hf])
    have HO:=Lib.hid (histF_ok hf)
    rw [hf]
    clear hf
    obtain ⟨q0,q1⟩:=hk3.two_
    have qz:=hk3.lt
    obtain ⟨r0,r1⟩:=hres3.two_
    have rz:=hres3.lt
    have rf0:=hres3.thaw 0
    have rf1:=hres3.thaw 1
    obtain ⟨z0,z1,z2⟩:=hres3.two2 (.slice SA segs.length c) (.slice TA atts.length d)
    have hgs:=grown_set_new (grown_set_new hgr3 (p:=⟨w.heap.size,0,none⟩) (by simp) (.slice SA segs.length c)) (p:=⟨w.heap.size,1,none⟩) (by simp) (.slice TA atts.length d)
    have hss:=(hs3.set (p:=⟨w.heap.size,0,none⟩) hlt (.slice SA segs.length c)).set (p:=⟨w.heap.size,1,none⟩) hlt (.slice TA atts.length d)
    have hht:=hh3.two hres3 (by omega) (.slice SA segs.length c) (.slice TA atts.length d)
    have hzz:=hgr.size
    have HHT:=Lib.hid hht
    have HGS:=Lib.hid hgs
    have HSS:=Lib.hid hss
    clear hht hgs hss hh3 hk3 hres3 hs3 hgr3
    go_wp2_with fail
    refine bodyPost_ret (v:=.agg #[.slice SA segs.length c,.slice TA atts.length d]) (by simp [results,Tryz.results22,go_sem,z0,z1,z2]) rfl ?_
    exact ⟨SA,TA,c,d,segs,atts,rfl,HHT.out.weak hzz,hc,n4,hm,HL.out,HO.out,⟨_,HSS.out,by omega,HRD⟩,HGS.out⟩
   ·have HRD : Hid (rhF L 8 k0 = rhF L (8 - (k + 1)) k2):=Lib.hid (by rw [HK.out,HRF.out,if_neg hf])
    have d5 : (histF segs atts == 0) = false:=by simpa using hf
    clear hf
    generalize histF segs atts = ef at *
    obtain ⟨q0,q1⟩:=hk3.two_
    have qz:=hk3.lt
    go_wp2_with fail
    go_roundw
    case rel => exact ⟨k + 1,by omega,by go_num,hres3,⟨_,hs3,by omega,HRD⟩,hgr3⟩
    case measure => simp [intOf]; omega
  ·have d8 : decide ((k : Int) < 8) = false:=by simp; omega
   obtain ⟨r0,r1⟩:=hres.two_
   have rz:=hres.lt
   have rf0:=hres.thaw 0
   have rf1:=hres.thaw 1
   obtain ⟨z0,z1,z2⟩:=hres.two2 (.slice (some ⟨wr.heap.size,0,none⟩) 1 1) (.slice none 0 0)
   have z0:=cell_al z0 (.cells #[.string ⟨#[97,97]⟩] 9)
   have z1:=cell_al z1 (.cells #[.string ⟨#[97,97]⟩] 9)
   have hgs:=grown_alloc (grown_set_new (grown_set_new hgr (p:=⟨w.heap.size,0,none⟩) (by simp) (.slice (some ⟨wr.heap.size,0,none⟩) 1 1)) (p:=⟨w.heap.size,1,none⟩) (by simp) (.slice none 0 0)) (.cells #[.string ⟨#[97,97]⟩] 9)
   have hss:=((hsr.set (p:=⟨w.heap.size,0,none⟩) hlt (.slice (some ⟨wr.heap.size,0,none⟩) 1 1)).set (p:=⟨w.heap.size,1,none⟩) hlt (.slice none 0 0)).alloc (.cells #[.string ⟨#[97,97]⟩] 9)
   have hlit : Blk (((wr.setCell ⟨w.heap.size,0,none⟩ (.slice (some ⟨wr.heap.size,0,none⟩) 1 1)).setCell ⟨w.heap.size,1,none⟩ (.slice none 0 0)).alloc (.cells #[.string ⟨#[97,97]⟩] 9)) wr.heap.size 9 #[.string ⟨#[97,97]⟩]:=by
    have:=Blk.new ((wr.setCell ⟨w.heap.size,0,none⟩ (.slice (some ⟨wr.heap.size,0,none⟩) 1 1)).setCell ⟨w.heap.size,1,none⟩ (.slice none 0 0)) 9 #[.string ⟨#[97,97]⟩]
    simpa using this
   have hrow : Hist (((wr.setCell ⟨w.heap.size,0,none⟩ (.slice (some ⟨wr.heap.size,0,none⟩) 1 1)).setCell ⟨w.heap.size,1,none⟩ (.slice none 0 0)).alloc (.cells #[.string ⟨#[97,97]⟩] 9)) w.heap.size (some ⟨wr.heap.size,0,none⟩) none [[97,97]] []:=⟨Row.lit (n:=1) (size:=1) hlit (by omega) rfl,[],Row.none_ _ _ _ _,fun i h => by simp at h⟩
   have Z:=Lib.hid (And.intro z0 (And.intro z1 z2))
   have HHT:=Lib.hid hrow
   have HGS:=Lib.hid hgs
   have HSS:=Lib.hid hss
   clear hgs hss hrow hlit z0 z1 z2
   go_wp2_with fail
   obtain ⟨z0,z1,z2⟩:=Z.out
   refine bodyPost_ret (v:=.agg #[.slice (some ⟨wr.heap.size,0,none⟩) 1 1,.slice none 0 0]) (by simp only [results,Tryz.results22,go_sem]; simp [go_sem,z0,z1]) rfl ?_
   exact ⟨some ⟨wr.heap.size,0,none⟩,none,1,0,[[97,97]],[],rfl,HHT.out,by simp,by simp,by simp,fun i h => by simp at h,aa_ok,⟨_,HSS.out,by omega,Lib.hid (by rw [HK.out,show 8 - k = 0 by omega]; rfl)⟩,HGS.out⟩
set_option maxHeartbeats 1000000 in
theorem live_ex (g k0 n m c d : Nat) (L : List Int) (SA TA : Option Addr) (w : World) (hs : StrE w g sB L k0) (hN : k0 < 4611686018426000000) (hn : n ≤ 900) :
  Calls Tryz.prog 31 #[.pointer (some ⟨g,0,none⟩),.agg #[.slice SA n c,.slice TA m d]] w (LiveE w g sB L k0 n):=by
 have hgl:=hs.lt
 go_enter Tryz.func31,Tryz.ntmps31
 go_wp2_with fail
 have hs1:=hs.alloc (.cells #[.slice SA n c,.slice TA m d] 29)
 have hg1 : w.grownBy (w.alloc (.cells #[.slice SA n c,.slice TA m d] 29)) (some g):=World.grownBy_alloc _ _ _
 have hz1 : (w.alloc (.cells #[.slice SA n c,.slice TA m d] 29)).heap.size = w.heap.size + 1:=by simp
 have HZ:=Lib.hid hz1
 clear hz1
 generalize w.alloc (.cells #[.slice SA n c,.slice TA m d] 29) = w1 at *
 refine (tried_exx g k0 n L _ hs1 (by omega) (by omega)).mono ?_
 rintro e w2 ⟨A2,c2,l,rfl,ho2,hl,⟨k2,hs2,hk2,HTR⟩,hg2⟩
 go_wp2_with fail
 refine (flip_exx g _ L _ _ hs2 (by omega) (by omega)).mono ?_
 rintro e w3 ⟨b,rfl,⟨hs3,HB⟩,hg3⟩
 have hgw : g < w1.heap.size:=by have:=HZ.out; omega
 have hlw : w.heap.size ≤ w1.heap.size:=by have:=HZ.out; omega
 have ho3:=own_weak (own_grown ho2 hg3 hgw) hlw
 have hgr:=grown_trans' (grown_trans' hg1 hg2) hg3
 clear ho2 hs2 hg2 hg3 hg1 hs1
 cases b
 ·go_wp2_with fail
  go_ret
  exact ⟨A2,c2,l,rfl,ho3,by omega,⟨_,hs3,by omega,Lib.hid (by unfold liF; rw [HTR.out,if_neg (of_decide_eq_false HB.out)])⟩,hgr⟩
 ·go_wp2_with fail
  refine (pick_exx g _ _ L _ _ [0,1000,5] _ (hs3.alloc _) (by omega) (row_new _ _ _ _ _ _ (Nat.le_refl _) rfl) hs3.lt (by simp) (by simp)).mono ?_
  rintro e w4 ⟨x,rfl,-,⟨hs4,HPK⟩,hg4⟩
  have hg34:=grown_trans' (World.grownBy_alloc w3 (.cells #[.int .i64 0,.int .i64 1000,.int .i64 5] 3) (some g)) hg4
  have ho4:=own_grown ho3 hg34 hgl
  have hgr4:=grown_trans' hgr hg34
  have hz4:=hgr4.size
  clear ho3 hgr hs3 hg4 hg34
  go_wp2_with (at_builtin; go_must (refine wpList_app (lo:=w.heap.size) (base:=w.heap.size) (n:=l.length) (xs:=ints l) _ _ rfl _ _ ty_ints rfl (by repeat (first | exact ho4 | refine World.ownsRow.alloc ?_ _ | refine own_drewN ?_ _ | refine World.ownsRow.drew ?_)) rfl (by first | exact row_new' _ (by first | rfl | simp) (by first | omega | (simp; omega)) rfl | exact row_newN _ _ (by first | rfl | simp) (by first | omega | (simp; omega)) rfl | exact row_newD _ (by first | rfl | simp) (by first | omega | (simp; omega)) rfl) rfl rfl (by first | omega | decide) (by first | omega | decide) (by first | omega | (simp; omega)) ?_))
  intro A5 c5 w5 hown5 hg5 _
  have hs5:=(hs4.alloc (.cells #[.int .i64 x] 3)).app (ho4.alloc (.cells #[.int .i64 x] 3)) hg5 hgl
  have hgr5:=grown_app (grown_alloc hgr4 (.cells #[.int .i64 x] 3)) (ho4.alloc (.cells #[.int .i64 x] 3)) hg5 (Nat.le_refl _)
  go_wp2_with fail
  go_ret
  refine ⟨A5,c5,l ++ [x],by first | (simp; done) | (rw [List.length_append]; rfl),?_,by simp; omega,⟨_,hs5,by omega,Lib.hid (by unfold liF; rw [HTR.out,if_pos (of_decide_eq_true HB.out),HPK.out])⟩,hgr5⟩
  rw [ints_app,List.length_append]; exact hown5
end Go.Proofs.YtapjahbflhingaaGreatDoor
