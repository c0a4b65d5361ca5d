/- Texts of this seat, laid together: Hsz Ht. -/
import Derived.Test.YtggnccafmadacaaGreatDoorBi21
import Derived.Test.YtggnccafmadacaaGreatDoorBi30
/- The sizes of a history. -/
namespace Go.Proofs.YtggnccafmadacaaGreatDoor
set_option linter.unusedVariables false
set_option linter.unusedSimpArgs false

structure HistSz (segs : List (List UInt8)) (atts : List Att) (c : Nat) : Prop where
  hc : segs.length ≤ c
  h9 : segs.length ≤ 1000000000
  h8 : atts.length ≤ 1000000000
  h7 : ∀ i (h : i < atts.length), atts[i].2.length ≤ 1000000000
  h6 : ∀ s ∈ segs, s.length ≤ 1000000000
end Go.Proofs.YtggnccafmadacaaGreatDoor
/- The walk of the stream's function that draws a history that is right. -/
namespace Go.Proofs.YtggnccafmadacaaGreatDoor
set_option linter.unusedVariables false
set_option linter.unusedSimpArgs false
open Go.RowKit Go.Sort

def RightHPost (w : World) (g N : Nat) (e : Ending) (w' : World) : Prop :=
 ∃ (SA TA : Option Addr) (c d : Nat) (segs : List (List UInt8)) (atts : List Att),e = .returned (.agg #[.slice SA segs.length c,.slice TA atts.length d]) ∧ Hist w' w.heap.size SA TA segs atts ∧ segs.length ≤ c ∧ segs.length ≤ 4 ∧ atts.length ≤ 7 ∧ (∀ i (h : i < atts.length),atts[i].2.length ≤ 4) ∧ HistOk segs atts ∧ Str w' g N ∧ w.grownBy w' (some g)
theorem Hist.two {w : World} {lo r : Nat} {SA TA : Option Addr} {segs : List (List UInt8)} {atts : List Att} {t : TypeId} {cs : Array Value} (h : Hist w lo SA TA segs atts) (hr : Blk w r t cs) (hlo : r < lo) (u v : Value) : Hist ((w.setCell ⟨r,0,none⟩ u).setCell ⟨r,1,none⟩ v) lo SA TA segs atts :=
 h.stream (g:=r) (grown_set (grown_set (World.grownBy.refl w _) 0 u) 1 v) hlo
theorem aa_ok : HistOk [[97,97]] []:=⟨by decide,by decide,by decide,by decide,by decide,fun i h => by simp at h,fun i h => by simp at h,fun i h => by simp at h⟩
set_option maxHeartbeats 4000000 in
theorem rightHistory_any (g N : Nat) (w : World) (hs : Str w g N) (hN : N < 4611686018425000000) :
  Calls Tryz.prog 44 #[.pointer (some ⟨g,0,none⟩)] w (RightHPost w g (N + 3000)):=by
 have hlt:=hs.lt
 go_enter Tryz.func44,Tryz.ntmps44
 go_wp2_with fail
 have hs0:=hs.alloc (.cells #[.slice none 0 0,.slice none 0 0] 56)
 have hres : Blk (w.alloc (.cells #[.slice none 0 0,.slice none 0 0] 56)) w.heap.size 56 #[.slice none 0 0,.slice none 0 0]:=Blk.new _ _ _
 have hgr0 : w.grownBy (w.alloc (.cells #[.slice none 0 0,.slice none 0 0] 56)) (some g):=World.grownBy_alloc _ _ _
 generalize w.alloc (.cells #[.slice none 0 0,.slice none 0 0] 56) = w0 at *
 go_loopw [4] (fun i wr => ∃ k : Nat,k ≤ 8 ∧ i = .int .i64 k ∧ Blk wr w.heap.size 56 #[.slice none 0 0,.slice none 0 0] ∧ Str wr g (N + 320 * k) ∧ w.grownBy wr (some g)) (fun i _ => 8 - (intOf i).toNat)
 case atStart => exact ⟨0,by omega,rfl,hres,hs0,hgr0⟩
 case round =>
  clear hres hs0 hgr0
  obtain ⟨k,hk,rfl,hres,hsr,hgr⟩:=hrel
  have hzr:=hres.lt
  by_cases hk8 : k < 8
  ·have d8 : decide ((k : Int) < 8) = true:=by simp; omega
   go_wp2_with fail
   refine (history_any g _ _ hsr (by omega)).mono ?_
   rintro e w1 ⟨SA,TA,c,d,segs,atts,rfl,hh,hc,n1,n4,hm,hl,hsl,hs1,hg1⟩
   have hz9 : HistSz segs atts c:=⟨hc,by omega,by omega,fun i h => by have:=hl i h; omega,fun s hs => by have:=hsl s hs; omega⟩
   have hres1:=hres.stream hg1 hlt
   have hgr1:=grown_trans' hgr hg1
   have HL:=Lib.hid hl
   clear hl hsl hres hsr hg1
   go_wp2_with fail
   have hh1:=hh.alloc (.cells #[.slice SA segs.length c,.slice TA atts.length d] 56)
   have hk1 : Blk (w1.alloc (.cells #[.slice SA segs.length c,.slice TA atts.length d] 56)) w1.heap.size 56 #[.slice SA segs.length c,.slice TA atts.length d]:=Blk.new _ _ _
   have hres1:=hres1.alloc (.cells #[.slice SA segs.length c,.slice TA atts.length d] 56)
   have hs1:=hs1.alloc (.cells #[.slice SA segs.length c,.slice TA atts.length d] 56)
   have hgr1:=grown_alloc hgr1 (.cells #[.slice SA segs.length c,.slice TA atts.length d] 56)
   generalize w1.alloc (.cells #[.slice SA segs.length c,.slice TA atts.length d] 56) = w2 at *
   generalize w1.heap.size = bx at *
   refine (historyFault_any _ _ _ _ _ segs atts _ hh1 hz9.hc hz9.h9 hz9.h8 hz9.h7 hz9.h6).mono ?_
   rintro e w3 ⟨rfl,hb3⟩
   have hh3:=hh1.below hb3
   have hk3:=hk1.below hb3
   have hres3:=hres1.below hb3
   have hs3:=hs1.keep hb3
   have hgr3:=grown_trans' hgr1 (grown_of_below hb3 _)
   clear hh hh1 hk1 hres1 hs1 hgr1 hb3
   by_cases hf : histF segs atts = 0
   ·have HO:=Lib.hid (histF_ok hf)
    rw [hf]
    clear hf
    obtain ⟨q0,q1⟩:=hk3.two_
    have qz:=hk3.lt
    obtain ⟨r0,r1⟩:=hres3.two_
    have rz:=hres3.lt
    have rf0:=hres3.thaw 0
    have rf1:=hres3.thaw 1
    obtain ⟨z0,z1,z2⟩:=hres3.two2 (.slice SA segs.length c) (.slice TA atts.length d)
    have hgs:=grown_set_new (grown_set_new hgr3 (p:=⟨w.heap.size,0,none⟩) (by simp) (.slice SA segs.length c)) (p:=⟨w.heap.size,1,none⟩) (by simp) (.slice TA atts.length d)
    have hss:=(hs3.set (p:=⟨w.heap.size,0,none⟩) hlt (.slice SA segs.length c)).set (p:=⟨w.heap.size,1,none⟩) hlt (.slice TA atts.length d)
    have hht:=hh3.two hres3 (by omega) (.slice SA segs.length c) (.slice TA atts.length d)
    have hzz:=hgr.size
    have HHT:=Lib.hid hht
    have HGS:=Lib.hid hgs
    have HSS:=Lib.hid hss
    clear hht hgs hss hh3 hk3 hres3 hs3 hgr3
    go_wp2_with fail
    refine bodyPost_ret (v:=.agg #[.slice SA segs.length c,.slice TA atts.length d]) (by simp [results,Tryz.results44,go_sem,z0,z1,z2]) rfl ?_
    exact ⟨SA,TA,c,d,segs,atts,rfl,HHT.out.weak hzz,hc,n4,hm,HL.out,HO.out,HSS.out.more (by omega),HGS.out⟩
   ·have d5 : (histF segs atts == 0) = false:=by simpa using hf
    clear hf
    generalize histF segs atts = ef at *
    obtain ⟨q0,q1⟩:=hk3.two_
    have qz:=hk3.lt
    go_wp2_with fail
    go_roundw
    case rel => exact ⟨k + 1,by omega,by go_num,hres3,hs3.more (by omega),hgr3⟩
    case measure => simp [intOf]; omega
  ·have d8 : decide ((k : Int) < 8) = false:=by simp; omega
   obtain ⟨r0,r1⟩:=hres.two_
   have rz:=hres.lt
   have rf0:=hres.thaw 0
   have rf1:=hres.thaw 1
   obtain ⟨z0,z1,z2⟩:=hres.two2 (.slice (some ⟨wr.heap.size,0,none⟩) 1 1) (.slice none 0 0)
   have z0:=cell_al z0 (.cells #[.string ⟨#[97,97]⟩] 9)
   have z1:=cell_al z1 (.cells #[.string ⟨#[97,97]⟩] 9)
   have hgs:=grown_alloc (grown_set_new (grown_set_new hgr (p:=⟨w.heap.size,0,none⟩) (by simp) (.slice (some ⟨wr.heap.size,0,none⟩) 1 1)) (p:=⟨w.heap.size,1,none⟩) (by simp) (.slice none 0 0)) (.cells #[.string ⟨#[97,97]⟩] 9)
   have hss:=((hsr.set (p:=⟨w.heap.size,0,none⟩) hlt (.slice (some ⟨wr.heap.size,0,none⟩) 1 1)).set (p:=⟨w.heap.size,1,none⟩) hlt (.slice none 0 0)).alloc (.cells #[.string ⟨#[97,97]⟩] 9)
   have hlit : Blk (((wr.setCell ⟨w.heap.size,0,none⟩ (.slice (some ⟨wr.heap.size,0,none⟩) 1 1)).setCell ⟨w.heap.size,1,none⟩ (.slice none 0 0)).alloc (.cells #[.string ⟨#[97,97]⟩] 9)) wr.heap.size 9 #[.string ⟨#[97,97]⟩]:=by
    have:=Blk.new ((wr.setCell ⟨w.heap.size,0,none⟩ (.slice (some ⟨wr.heap.size,0,none⟩) 1 1)).setCell ⟨w.heap.size,1,none⟩ (.slice none 0 0)) 9 #[.string ⟨#[97,97]⟩]
    simpa using this
   have hrow : Hist (((wr.setCell ⟨w.heap.size,0,none⟩ (.slice (some ⟨wr.heap.size,0,none⟩) 1 1)).setCell ⟨w.heap.size,1,none⟩ (.slice none 0 0)).alloc (.cells #[.string ⟨#[97,97]⟩] 9)) w.heap.size (some ⟨wr.heap.size,0,none⟩) none [[97,97]] []:=⟨Row.lit (n:=1) (size:=1) hlit (by omega) rfl,[],Row.none_ _ _ _ _,fun i h => by simp at h⟩
   have Z:=Lib.hid (And.intro z0 (And.intro z1 z2))
   have HHT:=Lib.hid hrow
   have HGS:=Lib.hid hgs
   have HSS:=Lib.hid hss
   clear hgs hss hrow hlit z0 z1 z2
   go_wp2_with fail
   obtain ⟨z0,z1,z2⟩:=Z.out
   refine bodyPost_ret (v:=.agg #[.slice (some ⟨wr.heap.size,0,none⟩) 1 1,.slice none 0 0]) (by simp only [results,Tryz.results44,go_sem]; simp [go_sem,z0,z1]) rfl ?_
   exact ⟨some ⟨wr.heap.size,0,none⟩,none,1,0,[[97,97]],[],rfl,HHT.out,by simp,by simp,by simp,fun i h => by simp at h,aa_ok,HSS.out.more (by omega),HGS.out⟩
end Go.Proofs.YtggnccafmadacaaGreatDoor
