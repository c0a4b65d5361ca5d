/- Texts of this seat, laid together: LawHistoriesStay. -/
import Derived.Test.YtapjahbflhingaaGreatDoorBu25
import Derived.Test.YtapjahbflhingaaGreatDoorBu33
import Derived.Test.YtapjahbflhingaaGreatDoorBu35
import Derived.Test.YtapjahbflhingaaGreatDoorBu43
import Derived.Test.YtapjahbflhingaaGreatDoorBu42
import Derived.Test.YtapjahbflhingaaGreatDoorBu54
/- For every list of numbers the law HistoriesStay returns true and leaves the list as it was: its walk. -/
namespace Go.Proofs.YtapjahbflhingaaGreatDoor
set_option linter.unusedVariables false
set_option linter.unusedSimpArgs false
open Go.RowKit Go.Sort

theorem Blk.as {w : World} {g : Nat} {t : TypeId} {cs cs' : Array Value} (h : Blk w g t cs) (e : cs = cs') : Blk w g t cs':=e ▸ h
theorem OHist.alloc {w : World} {base : Nat} {SA TA : Option Addr} {c d : Nat} {segs : List (List UInt8)} {zs : List AttE} (h : OHist w base SA c TA d segs zs) (o : Obj) : OHist (w.alloc o) base SA c TA d segs zs:=⟨h.1.alloc o,h.2.alloc o⟩
theorem OHist.other {w w' : World} {base : Nat} {SA TA : Option Addr} {c d : Nat} {segs : List (List UInt8)} {zs : List AttE} (h : OHist w base SA c TA d segs zs) {row : Option Nat} {x : TypeId} (hg : w.grownBy w' row) (hk : KindOf w row x) (h0 : x ≠ 9) (h1 : x ≠ 3) (h2 : x ≠ 81) : OHist w' base SA c TA d segs zs :=
 ⟨own_otherOf h.1 hg hk h0,h.2.other hg hk h1 h2⟩
def MergeOwn (w : World) (segs : List (List UInt8)) (e : Ending) (w' : World) : Prop :=
 ∃ (SA TA : Option Addr) (c d : Nat) (zs : List AttE),e = .returned (.tuple #[.agg #[.slice SA segs.length c,.slice TA zs.length d],.int .i64 0]) ∧ OHist w' w.heap.size SA c TA d segs zs ∧ zs.length ≤ 500 ∧ (∀ x ∈ zs,x.1.2.length ≤ 60) ∧ Below w.heap.size w w'
theorem attE_lens {segs : List (List UInt8)} {zs : List AttE} {atts : List Att} (e : attE zs = atts) (ok : HistOk segs atts) : ∀ x ∈ zs,x.1.2.length ≤ 60:=fun x hx => by
 have hm : x.1 ∈ atts:=by rw [← e]; exact List.mem_map_of_mem hx
 obtain ⟨i,hi,e2⟩:=List.mem_iff_getElem.1 hm
 have h1:=(ok.spl i hi).len
 have h2:=ok.n2
 rw [e2] at h1
 omega
theorem Merge_self (SA TA : Option Addr) (c d lo : Nat) (segs : List (List UInt8)) (atts : List Att) (w : World) (hA : Hist w lo SA TA segs atts) (hc : segs.length ≤ c) (ok : HistOk segs atts) :
  Calls Tryz.prog 26 #[.agg #[.slice SA segs.length c,.slice TA atts.length d],.agg #[.slice SA segs.length c,.slice TA atts.length d]] w (MergeOwn w segs):=by
 have hup:=up_lt ok.up
 have hs:=List.Sublist.refl atts
 have hab : ∀ x ∈ atts,x ∈ atts ∨ x ∈ atts:=fun x hx => .inl hx
 refine (Merge_ok SA TA SA TA c d c d lo lo segs atts atts w hA hA hc hc ok ok (parts_no hup hs hs) (by rw [(parts_perm hup hs hs hab).length_eq]; exact ok.m)).mono ?_
 rintro e w' ⟨S2,T2,c2,d2,zs,rfl,ho,hpm,hp,hb⟩
 have e1:=merge_parts hup hs hs hab hpm hp
 exact ⟨S2,T2,c2,d2,zs,rfl,ho,by rw [← attE_len,e1]; exact ok.m,attE_lens e1 ok,hb⟩
theorem WrT.cell4 {w : World} {base n : Nat} {t : TypeId} {B : Option Addr} (h : WrT w base t 4 B n) {k : Nat} (hk : k < n) : ∃ g u,B = some ⟨g,0,none⟩ ∧ base ≤ g ∧ g < w.heap.size ∧ w.cell? ⟨g,k * 4,none⟩ = some u ∧ w.frozen? ⟨g,k * 4,none⟩ = false:=by
 obtain ⟨g,cs,e,h1,hB,hs⟩:=h (by omega)
 exact ⟨g,cs[k * 4]'(by omega),e,h1,hB.lt,by rw [hB.cell]; simp,hB.thaw _⟩
def CompareW (w : World) (e : Ending) (w' : World) : Prop :=
 ∃ (A : Option Addr) (n c : Nat) (b : Bool) (z : Int),e = .returned (.tuple #[.slice A n c,.bool b,.int .i64 z]) ∧ n ≤ 100 ∧ WrT w' w.heap.size 77 4 A n ∧ Below w.heap.size w w'
theorem Compare_wr (SA TA B : Option Addr) (c d cB lo lo2 : Nat) (live : List Int) (segs : List (List UInt8)) (atts : List Att) (w : World) (hh : Hist w lo SA TA segs atts) (hz : HistSz segs atts c) (hrL : Row w lo2 1 B live.length (ints live)) (hl9 : live.length ≤ 100) (hok : HistOk segs atts) :
  Calls Tryz.prog 34 #[.agg #[.slice SA segs.length c,.slice TA atts.length d],.int .i64 2,.slice B live.length cB] w (CompareW w):=by
 by_cases h : cpE segs atts 2 live = 0
 ·have h2 : splF segs.length live = 0:=by
   unfold cpE at h
   rw [hfE_ok (histF_zero hok),firstE_two,if_pos (by decide)] at h
   exact h
  refine (Compare_ok SA TA B c d cB lo lo2 2 live segs atts w hh hz hrL (by omega) hok (splF_ok h2) h).mono ?_
  rintro e w' ⟨A',c',rfl,ho,hb⟩
  have hlen : (cdL segs atts 2 live).length ≤ 100:=by
   unfold cdL
   split
   ·rw [dltL_len]; exact hl9
   ·simp
  exact ⟨A',_,c',_,_,rfl,hlen,WrT.of_own ho,hb⟩
 ·refine (Compare_err SA TA B c d cB lo lo2 2 live segs atts w hh hz hrL (by omega) h).mono ?_
  rintro e w' ⟨rfl,hb⟩
  exact ⟨none,0,0,_,_,rfl,by omega,fun h => absurd h (by omega),hb⟩
theorem cmpO_len {segs : List (List UInt8)} {atts : List Att} (hok : HistOk segs atts) (how : Int) : (optL (cmpO segs.length atts how)).length ≤ segs.length:=by
 cases h : cmpO segs.length atts how with
 | none => simp [optL]
 | some l => exact Nat.le_of_eq (cmp_ok hok how l h).1
def SplitsW (w : World) (e : Ending) (w' : World) : Prop :=
 ∃ (A : Option Addr) (n c : Nat) (b : Bool),e = .returned (.tuple #[.slice A n c,.bool b,.int .i64 0]) ∧ n ≤ 1000000000 ∧ WrT w' w.heap.size 3 1 A n ∧ Below w.heap.size w w'
theorem Splits_wr (SA TA : Option Addr) (c d lo : Nat) (how : Int) (segs : List (List UInt8)) (atts : List Att) (w : World) (hh : Hist w lo SA TA segs atts) (hz : HistSz segs atts c) (hok : HistOk segs atts) (h1 : 1 ≤ how) (h6 : how ≤ 6) (hL : (optL (cmpO segs.length atts how)).length ≤ 1000000000) :
  Calls Tryz.prog 33 #[.agg #[.slice SA segs.length c,.slice TA atts.length d],.int .i64 how] w (SplitsW w):=by
 refine (Splits_ok SA TA c d lo how segs atts w hh hz hok (by rw [hfE_ok (histF_zero hok)]; unfold howE; rw [if_neg (by omega)])).mono ?_
 rintro e w' ⟨A',c',rfl,ho,hb⟩
 exact ⟨A',_,c',_,rfl,hL,WrT.of_own ho,hb⟩
set_option maxHeartbeats 8000000 in
set_option maxRecDepth 100000 in
theorem stay_walk (A : Option Addr) (n c : Nat) (w : World) (hn : n ≤ 9223372036854775807)
  (hz : ∀ k,k < n → ∃ b off z,A = some ⟨b,off,none⟩ ∧ b < w.heap.size ∧ w.cell? ⟨b,off + k,none⟩ = some (.int .i64 z) ∧ I64 z) :
  LawCall 6 A n c w:=by
 obtain ⟨L,hL,hs1,hcl⟩:=strE_make (c:=c) hn hz
 subst hL
 have hb0 : Below w.heap.size w ((w.alloc (.cells #[.slice A L.length c,.int .i64 0] 25)).alloc (.cells #[.slice A L.length c,.int .i64 0] 25)):=((Below.refl _ _).alloc (Nat.le_refl _) _).alloc (by simp) _
 have hs2 : StrE ((w.alloc (.cells #[.slice A L.length c,.int .i64 0] 25)).alloc (.cells #[.slice A L.length c,.int .i64 0] 25)) (w.heap.size + 1) w.heap.size L 0:=by
  have:=strE_two (c:=c) hn ((Below.refl w.heap.size w).alloc (Nat.le_refl _) (.cells #[.slice A L.length c,.int .i64 0] 25)) hcl
  simpa using this
 have hs1:=hs1.alloc (.cells #[.slice A L.length c,.int .i64 0] 25)
 have hz0 : ((w.alloc (.cells #[.slice A L.length c,.int .i64 0] 25)).alloc (.cells #[.slice A L.length c,.int .i64 0] 25)).heap.size = w.heap.size + 2:=by simp
 clear hz hcl
 go_enter Tryz.func6,Tryz.ntmps6
 go_wp2_with fail
 generalize (w.alloc (.cells #[.slice A L.length c,.int .i64 0] 25)).alloc (.cells #[.slice A L.length c,.int .i64 0] 25) = w0 at *
 have HZ0:=Lib.hid hz0
 clear hz0
 have hgw : w.heap.size + 1 < w0.heap.size:=by have:=HZ0.out; omega
 refine (rightHistory_ex w.heap.size 0 L _ hs1 (by omega)).mono ?_
 rintro e w2 ⟨SA,TA,c',d',segs,atts,rfl,hh,hc,n4,hm,hl,hok,⟨k1,hs1,hk1,HRH⟩,hg1⟩
 have hs2:=hs2.other hg1 (by omega) (Nat.le_refl _)
 have hzz:=hg1.size
 have hx : Below w.heap.size w w2:=hb0.grown hg1 (by omega) (fun k hk => by injection hk with hk; omega)
 go_wp2_with fail
 refine (rightHistory_ex (w.heap.size + 1) 0 L _ hs2 (by omega)).mono ?_
 rintro e w3 ⟨SB,TB,c2,d2,segs2,atts2,rfl,hh2,hc2,_,_,_,_,⟨k2,hs2,hk2,HRH2⟩,hg2⟩
 obtain ⟨rfl,rfl,rfl⟩ : segs = segs2 ∧ atts = atts2 ∧ k1 = k2:=by
  have:=HRH.out.symm.trans HRH2.out
  simpa using this
 have hs1:=hs1.other hg2 (by omega) (by omega)
 have hh:=hh.stream hg2 hgw
 have hh2:=hh2.weak (show w0.heap.size ≤ w2.heap.size from hzz)
 have hx : Below w.heap.size w w3:=hx.grown hg2 hx.size (fun k hk => by injection hk with hk; omega)
 have hz3 : w2.heap.size ≤ w3.heap.size:=hg2.size
 clear HRH HRH2 hg1 hg2 hb0
 have HO:=Lib.hid hok
 have n1:=hok.n1
 have HZ : Hid (HistSz segs atts c' ∧ HistSz segs atts c2):=by
  have hk : ∀ s ∈ segs,s.length ≤ 1000000000:=fun s hs => by
   obtain ⟨i,hi,rfl⟩:=List.mem_iff_getElem.1 hs
   have:=HO.out.key i hi
   unfold keyB at this
   simp only [Bool.and_eq_true,decide_eq_true_eq] at this
   omega
  exact Lib.hid ⟨⟨hc,by omega,by omega,fun i h => by have:=hl i h; omega,hk⟩,⟨hc2,by omega,by omega,fun i h => by have:=hl i h; omega,hk⟩⟩
 clear hok hl
 go_wp2_with fail
 have kh : Blk ((w3.alloc (.cells #[.slice SA segs.length c',.slice TA atts.length d'] 29)).alloc (.cells #[.slice SB segs.length c2,.slice TB atts.length d2] 29)) w3.heap.size 29 #[.slice SA segs.length c',.slice TA atts.length d']:=(Blk.new _ _ _).alloc _
 have kg : Blk ((w3.alloc (.cells #[.slice SA segs.length c',.slice TA atts.length d'] 29)).alloc (.cells #[.slice SB segs.length c2,.slice TB atts.length d2] 29)) (w3.heap.size + 1) 29 #[.slice SB segs.length c2,.slice TB atts.length d2]:=by
  have:=Blk.new (w3.alloc (.cells #[.slice SA segs.length c',.slice TA atts.length d'] 29)) 29 #[.slice SB segs.length c2,.slice TB atts.length d2]
  simpa using this
 have hh:=(hh.alloc (.cells #[.slice SA segs.length c',.slice TA atts.length d'] 29)).alloc (.cells #[.slice SB segs.length c2,.slice TB atts.length d2] 29)
 have hh2:=(hh2.alloc (.cells #[.slice SA segs.length c',.slice TA atts.length d'] 29)).alloc (.cells #[.slice SB segs.length c2,.slice TB atts.length d2] 29)
 have hs1:=(hs1.alloc (.cells #[.slice SA segs.length c',.slice TA atts.length d'] 29)).alloc (.cells #[.slice SB segs.length c2,.slice TB atts.length d2] 29)
 have hs2:=(hs2.alloc (.cells #[.slice SA segs.length c',.slice TA atts.length d'] 29)).alloc (.cells #[.slice SB segs.length c2,.slice TB atts.length d2] 29)
 have hx : Below w.heap.size w ((w3.alloc (.cells #[.slice SA segs.length c',.slice TA atts.length d'] 29)).alloc (.cells #[.slice SB segs.length c2,.slice TB atts.length d2] 29)):=Below.alloc (Below.alloc hx hx.size _) (by have:=hx.size; simp; omega) _
 have hgh : w.heap.size + 1 < w3.heap.size:=Nat.lt_of_lt_of_le hgw (Nat.le_trans hzz hz3)
 generalize (w3.alloc (.cells #[.slice SA segs.length c',.slice TA atts.length d'] 29)).alloc (.cells #[.slice SB segs.length c2,.slice TB atts.length d2] 29) = w4 at *
 generalize w3.heap.size = bh at *
 clear hzz hz3
 go_upto_region 3 with (fail)
 refine wp_region_held_drew (S:=(fun w' => (w'.cell? ⟨bh,0,none⟩ = some (.slice SA segs.length c') ∧ w'.cell? ⟨bh,1,none⟩ = some (.slice TA atts.length d')) ∧ (w'.cell? ⟨bh + 1,0,none⟩ = some (.slice SB segs.length c2) ∧ w'.cell? ⟨bh + 1,1,none⟩ = some (.slice TB atts.length d2)))) (by kernel_rfl) (⟨kh.drew.two_,kg.drew.two_⟩) (fun hHeld => ?_)
 have hh:=hh.below (Below.refl w4.heap.size w4).drew
 have hh2:=hh2.below (Below.refl w4.heap.size w4).drew
 have kh:=kh.drew
 have kg:=kg.drew
 have hs1:=hs1.drew
 have hs2:=hs2.drew
 have hx:=hx.drew
 generalize w4.drew = wd0 at *
 (refine wpAnyH_take (i:=0) (v:=?_) (by (simp only [List.getElem?_toArray,List.getElem?_cons_zero]; rfl)) (by kernel_rfl) (by kernel_rfl) (by kernel_rfl) (by exact fun _ _ _ h => h) (Or.inl ⟨by rfl,?_⟩) (by assumption) ?_; (rotate_left 1; (intro w hSw; (try dsimp only at hSw); go_simp); (try with_reducible rfl)); (try simp only [Act.put,List.setIfInBounds_toArray,List.set_cons_zero,List.set_cons_succ]))
 (refine wpAnyH_take (i:=1) (v:=?_) (by (simp only [List.getElem?_toArray,List.getElem?_cons_succ,List.getElem?_cons_zero]; rfl)) (by kernel_rfl) (by kernel_rfl) (by kernel_rfl) (by exact fun _ _ _ h => h) (Or.inl ⟨by rfl,?_⟩) (by assumption) ?_; (rotate_left 1; (intro w hSw; (try dsimp only at hSw); go_simp); (try with_reducible rfl)); (try simp only [Act.put,List.setIfInBounds_toArray,List.set_cons_zero,List.set_cons_succ]))
 (refine wpAnyH_take (i:=3) (v:=?_) (by (simp only [List.getElem?_toArray,List.getElem?_cons_succ,List.getElem?_cons_zero]; rfl)) (by kernel_rfl) (by kernel_rfl) (by kernel_rfl) (by exact fun _ _ _ h => h) (Or.inl ⟨by rfl,?_⟩) (by assumption) ?_; (rotate_left 1; (intro w hSw; (try dsimp only at hSw); go_simp); (try with_reducible rfl)); (try simp only [Act.put,List.setIfInBounds_toArray,List.set_cons_zero,List.set_cons_succ]))
 (refine wpAnyH_take (i:=4) (v:=?_) (by (simp only [List.getElem?_toArray,List.getElem?_cons_succ,List.getElem?_cons_zero]; rfl)) (by kernel_rfl) (by kernel_rfl) (by kernel_rfl) (by exact fun _ _ _ h => h) (Or.inl ⟨by rfl,?_⟩) (by assumption) ?_; (rotate_left 1; (intro w hSw; (try dsimp only at hSw); go_simp); (try with_reducible rfl)); (try simp only [Act.put,List.setIfInBounds_toArray,List.set_cons_zero,List.set_cons_succ]))
 refine wpAnyH_ready (rs:=[2]) (by kernel_rfl) (by simp) ?_
 refine AllReadyH.cons rfl (fun K hK => ?_) AllReadyH.nil
 go_simp
 go_at_call 31
 refine (live_ex w.heap.size _ segs.length atts.length c' d' L SA TA _ hs1 (by omega) (by omega)).mono ?_
 rintro e wX ⟨AX,cX,lX,rfl,hoX,hlX,⟨kX,hs1,_,HLX⟩,hg⟩
 have hrX:=Row.of_own hoX
 have hrX:=hrX.weak (lo':=bh) (by have:=kh.lt; omega)
 have hs2:=hs2.other hg (by omega) (by omega)
 have hh:=hh.stream hg (by omega)
 have hh2:=hh2.stream hg (by omega)
 have kh:=kh.stream hg (by omega)
 have kg:=kg.stream hg (by omega)
 have hx:=hx.grown hg hx.size (fun k hk => by injection hk with hk; omega)
 clear hg hoX
 go_wp2_with fail
 refine hK.out _ _ (⟨kh.two_,kg.two_⟩) (fun hHeld => ?_)
 clear hK K
 (try simp only [Act.put,List.setIfInBounds_toArray,List.set_cons_zero,List.set_cons_succ])
 refine wpAnyH_ready (rs:=[5]) (by kernel_rfl) (by simp) ?_
 refine AllReadyH.cons rfl (fun K hK => ?_) AllReadyH.nil
 go_simp
 go_at_call 31
 refine (live_ex (w.heap.size + 1) _ segs.length atts.length c2 d2 L SB TB _ hs2 (by omega) (by omega)).mono ?_
 rintro e wY ⟨AY,cY,lY,rfl,hoY,hlY,⟨kY,hs2,_,HLY⟩,hg⟩
 have hrY:=Row.of_own hoY
 have hrY:=hrY.weak (lo':=bh) (by have:=kh.lt; omega)
 have hrX:=hrX.grown hg (by omega)
 have hs1:=hs1.other hg (by omega) (by omega)
 have hh:=hh.stream hg (by omega)
 have hh2:=hh2.stream hg (by omega)
 have kh:=kh.stream hg (by omega)
 have kg:=kg.stream hg (by omega)
 have hx:=hx.grown hg hx.size (fun k hk => by injection hk with hk; omega)
 clear hg hoY
 go_wp2_with fail
 refine hK.out _ _ (⟨kh.two_,kg.two_⟩) (fun hHeld => ?_)
 clear hK K
 (try simp only [Act.put,List.setIfInBounds_toArray,List.set_cons_zero,List.set_cons_succ])
 (refine wpAnyH_take (i:=6) (v:=?_) (by (simp only [List.getElem?_toArray,List.getElem?_cons_succ,List.getElem?_cons_zero]; rfl)) (by kernel_rfl) (by kernel_rfl) (by kernel_rfl) (by exact fun _ _ _ h => h) (Or.inl ⟨by rfl,?_⟩) (by assumption) ?_; (rotate_left 1; (intro w hSw; (try dsimp only at hSw); go_simp); (try with_reducible rfl)); (try simp only [Act.put,List.setIfInBounds_toArray,List.set_cons_zero,List.set_cons_succ]))
 (refine wpAnyH_take (i:=7) (v:=?_) (by (simp only [List.getElem?_toArray,List.getElem?_cons_succ,List.getElem?_cons_zero]; rfl)) (by kernel_rfl) (by kernel_rfl) (by kernel_rfl) (by exact fun _ _ _ h => h) (Or.inl ⟨by rfl,?_⟩) (by assumption) ?_; (rotate_left 1; (intro w hSw; (try dsimp only at hSw); go_simp); (try with_reducible rfl)); (try simp only [Act.put,List.setIfInBounds_toArray,List.set_cons_zero,List.set_cons_succ]))
 refine wpAnyH_done (by kernel_rfl) ?_ _
 obtain ⟨rfl,rfl⟩ : lX = lY ∧ kX = kY:=by
  have:=HLX.out.symm.trans HLY.out
  simpa using this
 obtain ⟨wm,hwm⟩ : ∃ W,W = wY:=⟨_,rfl⟩
 rw [← hwm] at hh hh2 kh kg hrX hrY hx ⊢
 clear hs1 hs2 HLX HLY hlY hHeld hwm
 have HL9:=Lib.hid (fun i (h : i < atts.length) => Nat.le_trans (HO.out.spl i h).len (show segs.length ≤ 1000000000 by omega))
 have HC : Hid (∀ k : Nat,(optL (cmpO segs.length atts (k : Int))).length ≤ 1000000000):=Lib.hid (fun k => Nat.le_trans (cmpO_len HO.out _) (by omega))
 obtain ⟨p00,p01⟩:=kh.two_
 have pz0:=kh.lt
 go_wp2_with fail
 refine (Merge_self SA TA c' d' _ segs atts _ hh hc HO.out).mono ?_
 rintro e w5 ⟨S3,T3,c3,d3,zs,rfl,hom,hzm,hzl,hy⟩
 clear p00 p01 pz0
 have khy:=kh.below hy
 obtain ⟨p00,p01⟩:=khy.two_
 have pz0:=khy.lt
 go_wp2_with fail
 have km : Blk (w5.alloc (.cells #[.slice S3 segs.length c3,.slice T3 zs.length d3] 29)) w5.heap.size 29 #[.slice S3 segs.length c3,.slice T3 zs.length d3]:=Blk.new _ _ _
 have hom:=hom.alloc (.cells #[.slice S3 segs.length c3,.slice T3 zs.length d3] 29)
 have hym:=hy.alloc hy.size (.cells #[.slice S3 segs.length c3,.slice T3 zs.length d3] 29)
 generalize w5.alloc (.cells #[.slice S3 segs.length c3,.slice T3 zs.length d3] 29) = w6 at *
 clear p00 p01 pz0 khy
 obtain ⟨p00,p01⟩:=km.two_
 have pz0:=km.lt
 go_wp2_with fail
 refine (spoil_any S3 T3 c3 d3 wm.heap.size segs zs _ hom hym.size (by omega) hzm hzl).mono ?_
 rintro e w7 ⟨rfl,hb⟩
 have hy:=hym.trans hb
 clear p00 p01 pz0
 have hh:=hh.below hy
 have hh2:=hh2.below hy
 have kh:=kh.below hy
 have kg:=kg.below hy
 have hrX:=hrX.below hy
 have hrY:=hrY.below hy
 have hx:=below_up hx hy
 clear hy hb hym hom km
 obtain ⟨p00,p01⟩:=kh.two_
 have pz0:=kh.lt
 by_cases h2s : 1 < segs.length
 ·have d9 : decide (1 < (segs.length : Int)) = true:=by simp; omega
  obtain ⟨sb,so,rfl,_,sz,s0⟩:=hh.1.str_at (k:=0) (by omega)
  have HJ:=Lib.hid (fun (W : World) (hW : Hist W w0.heap.size (some ⟨sb,so,none⟩) TA segs atts) => Join_ok (some ⟨sb,so,none⟩) TA c' d' w0.heap.size 0 segs atts W hW hc HO.out (by omega))
  have HJO:=Lib.hid (ok_join HO.out (k:=0) (by omega))
  unfold encStr at s0 HJ
  generalize segs.eraseIdx 0 = sj at *
  generalize joinL 0 atts = aj at *
  generalize (segs[0]'(by omega)) = z at *
  rw [Nat.add_zero] at s0
  have h0s : 0 < segs.length:=by omega
  go_upto_region 9 with (fail)
  have khD:=kh.drew
  have hhD:=hh.below (Below.refl w7.heap.size w7).drew
  have hh2D:=hh2.below (Below.refl w7.heap.size w7).drew
  have kgD:=kg.drew
  have hrXD:=hrX.drew
  have hrYD:=hrY.drew
  have hxD:=hx.drew
  have s0D : w7.drew.cell? ⟨sb,so,none⟩ = some (.string ⟨z.toArray⟩):=s0
  have szD : sb < w7.drew.heap.size:=sz
  clear kh hh hx s0 sz p00 p01 pz0 hh2 kg hrX hrY
  refine wp_region_held_drew (S:=(fun w' => (w'.cell? ⟨bh,0,none⟩ = some (.slice (some ⟨sb,so,none⟩) segs.length c') ∧ w'.cell? ⟨bh,1,none⟩ = some (.slice TA atts.length d')) ∧ w'.cell? ⟨sb,so,none⟩ = some (.string ⟨z.toArray⟩))) (by kernel_rfl) (⟨khD.two_,s0D⟩) (fun hHeld => ?_)
  generalize w7.drew = wd at *
  have hxd:=Below.refl wd.heap.size wd
  (refine wpAnyH_take (i:=0) (v:=?_) (by (simp only [List.getElem?_toArray,List.getElem?_cons_zero]; rfl)) (by kernel_rfl) (by kernel_rfl) (by kernel_rfl) (by exact fun _ _ _ h => h) (Or.inl ⟨by rfl,?_⟩) (by assumption) ?_; (rotate_left 1; (intro w hSw; (try dsimp only at hSw); go_simp); (try with_reducible rfl)); (try simp only [Act.put,List.setIfInBounds_toArray,List.set_cons_zero,List.set_cons_succ]))
  (refine wpAnyH_take (i:=1) (v:=?_) (by (simp only [List.getElem?_toArray,List.getElem?_cons_succ,List.getElem?_cons_zero]; rfl)) (by kernel_rfl) (by kernel_rfl) (by kernel_rfl) (by exact fun _ _ _ h => h) (Or.inl ⟨by rfl,?_⟩) (by assumption) ?_; (rotate_left 1; (intro w hSw; (try dsimp only at hSw); go_simp); (try with_reducible rfl)); (try simp only [Act.put,List.setIfInBounds_toArray,List.set_cons_zero,List.set_cons_succ]))
  (refine wpAnyH_take (i:=2) (v:=?_) (by (simp only [List.getElem?_toArray,List.getElem?_cons_succ,List.getElem?_cons_zero]; rfl)) (by kernel_rfl) (by kernel_rfl) (by kernel_rfl) (by exact fun _ _ _ h => h) (Or.inl ⟨by rfl,?_⟩) (by assumption) ?_; (rotate_left 1; (intro w hSw; (try dsimp only at hSw); go_simp); (try with_reducible rfl)); (try simp only [Act.put,List.setIfInBounds_toArray,List.set_cons_zero,List.set_cons_succ]))
  (refine wpAnyH_take (i:=3) (v:=?_) (by (simp only [List.getElem?_toArray,List.getElem?_cons_succ,List.getElem?_cons_zero]; rfl)) (by kernel_rfl) (by kernel_rfl) (by kernel_rfl) (by exact fun _ _ _ h => h) (Or.inl ⟨by rfl,?_⟩) (by assumption) ?_; (rotate_left 1; (intro w hSw; (try dsimp only at hSw); go_simp); (try with_reducible rfl)); (try simp only [Act.put,List.setIfInBounds_toArray,List.set_cons_zero,List.set_cons_succ]))
  (refine wpAnyH_take (i:=4) (v:=?_) (by (simp only [List.getElem?_toArray,List.getElem?_cons_succ,List.getElem?_cons_zero]; rfl)) (by kernel_rfl) (by kernel_rfl) (by kernel_rfl) (by exact fun _ _ _ h => h) (Or.inl ⟨by rfl,?_⟩) (by assumption) ?_; (rotate_left 1; (intro w hSw; (try dsimp only at hSw); go_simp); (try with_reducible rfl)); (try simp only [Act.put,List.setIfInBounds_toArray,List.set_cons_zero,List.set_cons_succ]))
  refine wpAnyH_ready (rs:=[5,9]) (by kernel_rfl) (by simp) ?_
  refine AllReadyH.cons rfl (fun K hK => ?_) (AllReadyH.cons rfl (fun K hK => ?_) AllReadyH.nil)
  case refine_1 =>
   go_simp
   go_at_call 28
   refine (HJ.out _ (hhD.below hxd)).mono ?_
   rintro e w12 ⟨S5,T5,c5,d5,zj,rfl,hoj,ej,hb,hcj⟩
   have hoj : OHist w12 wd.heap.size S5 c5 T5 d5 sj zj:=⟨own_weak hoj.1 hxd.size,hoj.2.weak hxd.size⟩
   have hxd:=below_up hxd hb
   clear hb
   go_wp2_with fail
   refine hK.out _ _ (⟨(khD.below hxd).two_,(hxd.cell szD).trans s0D⟩) (fun hHeld => ?_)
   clear hK K
   (try simp only [Act.put,List.setIfInBounds_toArray,List.set_cons_zero,List.set_cons_succ])
   (refine wpAnyH_take (i:=6) (v:=?_) (by (simp only [List.getElem?_toArray,List.getElem?_cons_succ,List.getElem?_cons_zero]; rfl)) (by kernel_rfl) (by kernel_rfl) (by kernel_rfl) (by exact fun _ _ _ h => h) (Or.inl ⟨by rfl,?_⟩) (by assumption) ?_; (rotate_left 1; (intro w hSw; (try dsimp only at hSw); go_simp); (try with_reducible rfl)); (try simp only [Act.put,List.setIfInBounds_toArray,List.set_cons_zero,List.set_cons_succ]))
   (refine wpAnyH_take (i:=7) (v:=?_) (by (simp only [List.getElem?_toArray,List.getElem?_cons_succ,List.getElem?_cons_zero]; rfl)) (by kernel_rfl) (by kernel_rfl) (by kernel_rfl) (by exact fun _ _ _ h => h) (Or.inl ⟨by rfl,?_⟩) (by assumption) ?_; (rotate_left 1; (intro w hSw; (try dsimp only at hSw); go_simp); (try with_reducible rfl)); (try simp only [Act.put,List.setIfInBounds_toArray,List.set_cons_zero,List.set_cons_succ]))
   (refine wpAnyH_take (i:=8) (v:=?_) (by (simp only [List.getElem?_toArray,List.getElem?_cons_succ,List.getElem?_cons_zero]; rfl)) (by kernel_rfl) (by kernel_rfl) (by kernel_rfl) (by exact fun _ _ _ h => h) (Or.inl ⟨by rfl,?_⟩) (by assumption) ?_; (rotate_left 1; (intro w hSw; (try dsimp only at hSw); go_simp); (try with_reducible rfl)); (try simp only [Act.put,List.setIfInBounds_toArray,List.set_cons_zero,List.set_cons_succ]))
   refine wpAnyH_ready (rs:=[9]) (by kernel_rfl) (by simp) ?_
   refine AllReadyH.cons rfl (fun K hK => ?_) AllReadyH.nil
   go_simp
   obtain ⟨bj,hbj⟩ : ∃ b,b = w12.heap.size:=⟨_,rfl⟩
   have kj : Blk (w12.alloc (.cells #[.slice none 0 0,.slice none 0 0] 29)) bj 29 #[.slice none 0 0,.slice none 0 0]:=by rw [hbj]; exact Blk.new _ _ _
   have hbd : wd.heap.size ≤ bj:=by rw [hbj]; exact hxd.size
   have hoj:=hoj.alloc (.cells #[.slice none 0 0,.slice none 0 0] 29)
   have hxd:=Below.alloc hxd hxd.size (.cells #[.slice none 0 0,.slice none 0 0] 29)
   rw [← hbj]
   clear hbj
   generalize w12.alloc (.cells #[.slice none 0 0,.slice none 0 0] 29) = wk at *
   refine hK.out _ _ (⟨(khD.below hxd).two_,(hxd.cell szD).trans s0D⟩) (fun hHeld => ?_)
   clear hK K
   (try simp only [Act.put,List.setIfInBounds_toArray,List.set_cons_zero,List.set_cons_succ])
   refine wpAnyH_ready (rs:=[10]) (by kernel_rfl) (by simp) ?_
   refine AllReadyH.cons rfl (fun K hK => ?_) AllReadyH.nil
   obtain ⟨r0,r1⟩:=kj.two_
   have rz:=kj.lt
   have rf0:=kj.thaw 0
   have rf1:=kj.thaw 1
   go_simp
   clear r0 r1 rz rf0 rf1
   have hxd:=Below.setCell (Below.setCell hxd (p:=⟨bj,0,none⟩) hbd (.slice S5 sj.length c5)) (p:=⟨bj,1,none⟩) hbd (.slice T5 zj.length d5)
   have hoj:=hoj.other (grown_set (grown_set (World.grownBy.refl wk (some bj)) 0 (.slice S5 sj.length c5)) 1 (.slice T5 zj.length d5)) (x:=29) kj.kindOf (by decide) (by decide) (by decide)
   have kj:=((kj.poke 0 (.slice S5 sj.length c5)).poke 1 (.slice T5 zj.length d5)).as (cs':=#[.slice S5 sj.length c5,.slice T5 zj.length d5]) (by simp)
   refine hK.out _ _ (⟨(khD.below hxd).two_,(hxd.cell szD).trans s0D⟩) (fun hHeld => ?_)
   clear hK K
   (try simp only [Act.put,List.setIfInBounds_toArray,List.set_cons_zero,List.set_cons_succ])
   (refine wpAnyH_take (i:=11) (v:=?_) (by (simp only [List.getElem?_toArray,List.getElem?_cons_succ,List.getElem?_cons_zero]; rfl)) (by kernel_rfl) (by kernel_rfl) (by kernel_rfl) (by exact fun _ _ _ h => h) (Or.inl ⟨by rfl,?_⟩) (by assumption) ?_; (rotate_left 1; (intro w hSw; (try dsimp only at hSw); go_simp); (try with_reducible rfl)); (try simp only [Act.put,List.setIfInBounds_toArray,List.set_cons_zero,List.set_cons_succ]))
   refine wpAnyH_done (by kernel_rfl) ?_ _
   obtain ⟨w8,hw8⟩ : ∃ W,W = (wk.setCell ⟨bj,0,none⟩ (.slice S5 sj.length c5)).setCell ⟨bj,1,none⟩ (.slice T5 zj.length d5):=⟨_,rfl⟩
   rw [← hw8] at hxd hoj kj ⊢
   clear hw8 hHeld HJ
   have hjl : zj.length ≤ 500:=by rw [← attE_len,ej]; exact HJO.out.m
   have hjs : ∀ x ∈ zj,x.1.2.length ≤ 60:=attE_lens ej HJO.out
   have hjn:=HJO.out.n2
   obtain ⟨p00,p01⟩:=kj.two_
   have pz0:=kj.lt
   go_wp2_with fail
   refine (spoil_any S5 T5 c5 d5 wd.heap.size sj zj _ hoj hxd.size hjn hjl hjs).mono ?_
   rintro e w14 ⟨rfl,hb⟩
   have hy:=hxd.trans hb
   have hh:=hhD.below hy
   have hh2:=hh2D.below hy
   have kh:=khD.below hy
   have kg:=kgD.below hy
   have hrX:=hrXD.below hy
   have hrY:=hrYD.below hy
   have hx:=below_up hxD hy
   clear hxD hxd hhD hh2D khD kgD hrXD hrYD ej hoj hjs hjl kj hb hy p00 p01 pz0 HJO
   go_wp2_with fail
   go_loopw [13] (fun i wr => ∃ k : Nat,1 ≤ k ∧ k ≤ 7 ∧ i = .int .i64 k ∧ Below w14.heap.size w14 wr) (fun i _ => 7 - (intOf i).toNat)
   case atStart => exact ⟨1,Nat.le_refl _,by omega,rfl,Below.refl _ _⟩
   case round =>
    obtain ⟨k,hk1,hk7,rfl,hy⟩:=hrel
    by_cases hlt : k ≤ 6
    ·have hho:=hh.below hy
     have khy:=kh.below hy
     obtain ⟨p00,p01⟩:=khy.two_
     have pz0:=khy.lt
     go_wp2_with fail
     refine (Splits_wr (some ⟨sb,so,none⟩) TA c' d' _ (k : Int) segs atts _ hho HZ.out.1 HO.out (by omega) (by omega) (HC.out k)).mono ?_
     rintro e wq ⟨P,np,cp,bq,rfl,hnp,hwr,hb⟩
     have hyq:=below_up hy hb
     have hbq : w14.heap.size ≤ wr.heap.size:=hy.size
     clear hb p00 p01 pz0 khy hho
     go_wp2_with fail
     go_loopw [80] (fun j wv => ∃ i : Nat,i ≤ np ∧ j = .int .i64 i ∧ WrT wv wr.heap.size 3 1 P np ∧ Below w14.heap.size w14 wv) (fun j _ => np - (intOf j).toNat)
     case atStart => exact ⟨0,Nat.zero_le _,rfl,hwr,hyq⟩
     case round =>
      clear hwr hyq
      obtain ⟨i,hi,rfl,hwr,hyq⟩:=hrel
      by_cases hil : i < np
      ·obtain ⟨gs,u,rfl,hgb,hgl,cu,fu,hty⟩:=hwr.cell hil
       have hw2:=hwr.poke gs i (.int .i64 777)
       have hy2:=Below.setCell hyq (p:=⟨gs,i,none⟩) (Nat.le_trans hbq hgb) (.int .i64 777)
       clear hwr hyq
       go_wp2_with fail
       go_roundw
       case rel => exact ⟨i + 1,by omega,by go_num,hw2,hy2⟩
       case measure => simp [intOf]; omega
      ·have hin : i = np:=by omega
       subst hin
       clear hwr
       go_wp2_with fail
       go_roundw
       case rel => exact ⟨k + 1,by omega,by omega,by go_num,hyq⟩
       case measure => simp [intOf]; omega
    ·have hk : k = 7:=by omega
     subst hk
     have hh:=hh.below hy
     have hh2:=hh2.below hy
     have kh:=kh.below hy
     have kg:=kg.below hy
     have hrX:=hrX.below hy
     have hrY:=hrY.below hy
     have hx:=below_up hx hy
     clear hy
     obtain ⟨w9,hw9⟩ : ∃ W9,W9 = wr:=⟨_,rfl⟩
     subst hw9
     obtain ⟨p00,p01⟩:=kh.two_
     have pz0:=kh.lt
     go_wp2_with fail
     refine (Compare_wr (some ⟨sb,so,none⟩) TA AX c' d' cX _ _ lX segs atts _ hh HZ.out.1 hrX (by omega) HO.out).mono ?_
     rintro e w10 ⟨DA,nd,cd,bd,zd,rfl,hnd,hwr,hb⟩

     clear p00 p01 pz0
     by_cases hzd : zd = 0
     ·subst hzd
      go_wp2_with fail
      go_loopw [98] (fun j wv => ∃ i : Nat,i ≤ nd ∧ j = .int .i64 i ∧ WrT wv w9.heap.size 77 4 DA nd ∧ Below w9.heap.size w9 wv) (fun j _ => nd - (intOf j).toNat)
      case atStart => exact ⟨0,Nat.zero_le _,rfl,hwr,hb⟩
      case round =>
       clear hwr hb
       obtain ⟨i,hi,rfl,hwr,hb⟩:=hrel
       by_cases hil : i < nd
       ·obtain ⟨gs,u,rfl,hgb,hgl,cu,fu⟩:=hwr.cell4 hil
        have hw2:=hwr.poke gs (i * 4) (.string ⟨#[115,112,111,105,108,116]⟩)
        have hb2:=Below.setCell hb (p:=⟨gs,i * 4,none⟩) hgb (.string ⟨#[115,112,111,105,108,116]⟩)
        clear hwr hb
        go_wp2_with fail
        go_roundw
        case rel => exact ⟨i + 1,by omega,by go_num,hw2,hb2⟩
        case measure => simp [intOf]; omega
       ·have hin : i = nd:=by omega
        subst hin
        clear hwr
        have hh:=hh.below hb
        have hh2:=hh2.below hb
        have kh:=kh.below hb
        have kg:=kg.below hb
        have hrX:=hrX.below hb
        have hrY:=hrY.below hb
        have hx:=below_up hx hb
        clear hb
        obtain ⟨p00,p01⟩:=kh.two_
        have pz0:=kh.lt
        obtain ⟨p10,p11⟩:=kg.two_
        have pz1:=kg.lt
        go_wp2_with fail
        refine (sameHistory_any (some ⟨sb,so,none⟩) TA SB TB c' d' c2 d2 _ _ segs segs atts atts _ hh hh2 (by omega) (by omega) (by omega) (by omega) HL9.out HL9.out).mono ?_
        rintro e w11 ⟨rfl,hb11⟩
        rw [decide_eq_true (⟨rfl,rfl⟩ : segs = segs ∧ atts = atts)]
        have hrX:=hrX.below hb11
        have hrY:=hrY.below hb11
        have hx:=below_up hx hb11
        clear hb11 p00 p01 pz0 p10 p11 pz1
        go_wp2_with fail
        refine (equalI_any AX AY cX cY _ _ lX lX _ hrX hrY (by omega) (by omega)).mono ?_
        rintro e w12 ⟨rfl,q,rfl⟩
        rw [decide_eq_true (rfl : lX = lX)]
        go_wp2_with fail
        refine (ready_any _).mono ?_
        rintro e w13 ⟨rfl,hb⟩
        go_wp2_with fail
        go_ret
        exact ⟨rfl,below_up (by repeat (first | exact hx | refine Below.alloc ?_ (by first | omega | (simp; omega) | simp) _ | refine below_drewN' ?_ _ | refine Below.drew ?_)) hb⟩
     ·have dz : (zd == 0) = false:=by simpa using hzd
      have dz2 : (zd == 0) = false:=dz
      clear hwr
      have hh:=hh.below hb
      have hh2:=hh2.below hb
      have kh:=kh.below hb
      have kg:=kg.below hb
      have hrX:=hrX.below hb
      have hrY:=hrY.below hb
      have hx:=below_up hx hb
      clear hb
      obtain ⟨p00,p01⟩:=kh.two_
      have pz0:=kh.lt
      obtain ⟨p10,p11⟩:=kg.two_
      have pz1:=kg.lt
      go_wp2_with fail
      refine (sameHistory_any (some ⟨sb,so,none⟩) TA SB TB c' d' c2 d2 _ _ segs segs atts atts _ hh hh2 (by omega) (by omega) (by omega) (by omega) HL9.out HL9.out).mono ?_
      rintro e w11 ⟨rfl,hb11⟩
      rw [decide_eq_true (⟨rfl,rfl⟩ : segs = segs ∧ atts = atts)]
      have hrX:=hrX.below hb11
      have hrY:=hrY.below hb11
      have hx:=below_up hx hb11
      clear hb11 p00 p01 pz0 p10 p11 pz1
      go_wp2_with fail
      refine (equalI_any AX AY cX cY _ _ lX lX _ hrX hrY (by omega) (by omega)).mono ?_
      rintro e w12 ⟨rfl,q,rfl⟩
      rw [decide_eq_true (rfl : lX = lX)]
      go_wp2_with fail
      refine (ready_any _).mono ?_
      rintro e w13 ⟨rfl,hb⟩
      go_wp2_with fail
      go_ret
      exact ⟨rfl,below_up (by repeat (first | exact hx | refine Below.alloc ?_ (by first | omega | (simp; omega) | simp) _ | refine below_drewN' ?_ _ | refine Below.drew ?_)) hb⟩
  case refine_2 =>
   go_simp
   obtain ⟨bj,hbj⟩ : ∃ b,b = wd.heap.size:=⟨_,rfl⟩
   have kj : Blk (wd.alloc (.cells #[.slice none 0 0,.slice none 0 0] 29)) bj 29 #[.slice none 0 0,.slice none 0 0]:=by rw [hbj]; exact Blk.new _ _ _
   have hbd : wd.heap.size ≤ bj:=by rw [hbj]; exact hxd.size
   have hxd:=Below.alloc hxd hxd.size (.cells #[.slice none 0 0,.slice none 0 0] 29)
   rw [← hbj]
   clear hbj
   generalize wd.alloc (.cells #[.slice none 0 0,.slice none 0 0] 29) = wk at *
   refine hK.out _ _ (⟨(khD.below hxd).two_,(hxd.cell szD).trans s0D⟩) (fun hHeld => ?_)
   clear hK K
   (try simp only [Act.put,List.setIfInBounds_toArray,List.set_cons_zero,List.set_cons_succ])
   refine wpAnyH_ready (rs:=[5]) (by kernel_rfl) (by simp) ?_
   refine AllReadyH.cons rfl (fun K hK => ?_) AllReadyH.nil
   go_simp
   go_at_call 28
   refine (HJ.out _ (hhD.below hxd)).mono ?_
   rintro e w12 ⟨S5,T5,c5,d5,zj,rfl,hoj,ej,hb,hcj⟩
   have kj:=kj.below hb
   have hoj : OHist w12 wd.heap.size S5 c5 T5 d5 sj zj:=⟨own_weak hoj.1 hxd.size,hoj.2.weak hxd.size⟩
   have hxd:=below_up hxd hb
   clear hb
   go_wp2_with fail
   refine hK.out _ _ (⟨(khD.below hxd).two_,(hxd.cell szD).trans s0D⟩) (fun hHeld => ?_)
   clear hK K
   (try simp only [Act.put,List.setIfInBounds_toArray,List.set_cons_zero,List.set_cons_succ])
   (refine wpAnyH_take (i:=6) (v:=?_) (by (simp only [List.getElem?_toArray,List.getElem?_cons_succ,List.getElem?_cons_zero]; rfl)) (by kernel_rfl) (by kernel_rfl) (by kernel_rfl) (by exact fun _ _ _ h => h) (Or.inl ⟨by rfl,?_⟩) (by assumption) ?_; (rotate_left 1; (intro w hSw; (try dsimp only at hSw); go_simp); (try with_reducible rfl)); (try simp only [Act.put,List.setIfInBounds_toArray,List.set_cons_zero,List.set_cons_succ]))
   (refine wpAnyH_take (i:=7) (v:=?_) (by (simp only [List.getElem?_toArray,List.getElem?_cons_succ,List.getElem?_cons_zero]; rfl)) (by kernel_rfl) (by kernel_rfl) (by kernel_rfl) (by exact fun _ _ _ h => h) (Or.inl ⟨by rfl,?_⟩) (by assumption) ?_; (rotate_left 1; (intro w hSw; (try dsimp only at hSw); go_simp); (try with_reducible rfl)); (try simp only [Act.put,List.setIfInBounds_toArray,List.set_cons_zero,List.set_cons_succ]))
   (refine wpAnyH_take (i:=8) (v:=?_) (by (simp only [List.getElem?_toArray,List.getElem?_cons_succ,List.getElem?_cons_zero]; rfl)) (by kernel_rfl) (by kernel_rfl) (by kernel_rfl) (by exact fun _ _ _ h => h) (Or.inl ⟨by rfl,?_⟩) (by assumption) ?_; (rotate_left 1; (intro w hSw; (try dsimp only at hSw); go_simp); (try with_reducible rfl)); (try simp only [Act.put,List.setIfInBounds_toArray,List.set_cons_zero,List.set_cons_succ]))
   refine wpAnyH_ready (rs:=[10]) (by kernel_rfl) (by simp) ?_
   refine AllReadyH.cons rfl (fun K hK => ?_) AllReadyH.nil
   obtain ⟨r0,r1⟩:=kj.two_
   have rz:=kj.lt
   have rf0:=kj.thaw 0
   have rf1:=kj.thaw 1
   go_simp
   clear r0 r1 rz rf0 rf1
   have hxd:=Below.setCell (Below.setCell hxd (p:=⟨bj,0,none⟩) hbd (.slice S5 sj.length c5)) (p:=⟨bj,1,none⟩) hbd (.slice T5 zj.length d5)
   have hoj:=hoj.other (grown_set (grown_set (World.grownBy.refl w12 (some bj)) 0 (.slice S5 sj.length c5)) 1 (.slice T5 zj.length d5)) (x:=29) kj.kindOf (by decide) (by decide) (by decide)
   have kj:=((kj.poke 0 (.slice S5 sj.length c5)).poke 1 (.slice T5 zj.length d5)).as (cs':=#[.slice S5 sj.length c5,.slice T5 zj.length d5]) (by simp)
   refine hK.out _ _ (⟨(khD.below hxd).two_,(hxd.cell szD).trans s0D⟩) (fun hHeld => ?_)
   clear hK K
   (try simp only [Act.put,List.setIfInBounds_toArray,List.set_cons_zero,List.set_cons_succ])
   (refine wpAnyH_take (i:=11) (v:=?_) (by (simp only [List.getElem?_toArray,List.getElem?_cons_succ,List.getElem?_cons_zero]; rfl)) (by kernel_rfl) (by kernel_rfl) (by kernel_rfl) (by exact fun _ _ _ h => h) (Or.inl ⟨by rfl,?_⟩) (by assumption) ?_; (rotate_left 1; (intro w hSw; (try dsimp only at hSw); go_simp); (try with_reducible rfl)); (try simp only [Act.put,List.setIfInBounds_toArray,List.set_cons_zero,List.set_cons_succ]))
   refine wpAnyH_done (by kernel_rfl) ?_ _
   obtain ⟨w8,hw8⟩ : ∃ W,W = (w12.setCell ⟨bj,0,none⟩ (.slice S5 sj.length c5)).setCell ⟨bj,1,none⟩ (.slice T5 zj.length d5):=⟨_,rfl⟩
   rw [← hw8] at hxd hoj kj ⊢
   clear hw8 hHeld HJ
   have hjl : zj.length ≤ 500:=by rw [← attE_len,ej]; exact HJO.out.m
   have hjs : ∀ x ∈ zj,x.1.2.length ≤ 60:=attE_lens ej HJO.out
   have hjn:=HJO.out.n2
   obtain ⟨p00,p01⟩:=kj.two_
   have pz0:=kj.lt
   go_wp2_with fail
   refine (spoil_any S5 T5 c5 d5 wd.heap.size sj zj _ hoj hxd.size hjn hjl hjs).mono ?_
   rintro e w14 ⟨rfl,hb⟩
   have hy:=hxd.trans hb
   have hh:=hhD.below hy
   have hh2:=hh2D.below hy
   have kh:=khD.below hy
   have kg:=kgD.below hy
   have hrX:=hrXD.below hy
   have hrY:=hrYD.below hy
   have hx:=below_up hxD hy
   clear hxD hxd hhD hh2D khD kgD hrXD hrYD ej hoj hjs hjl kj hb hy p00 p01 pz0 HJO
   go_wp2_with fail
   go_loopw [13] (fun i wr => ∃ k : Nat,1 ≤ k ∧ k ≤ 7 ∧ i = .int .i64 k ∧ Below w14.heap.size w14 wr) (fun i _ => 7 - (intOf i).toNat)
   case atStart => exact ⟨1,Nat.le_refl _,by omega,rfl,Below.refl _ _⟩
   case round =>
    obtain ⟨k,hk1,hk7,rfl,hy⟩:=hrel
    by_cases hlt : k ≤ 6
    ·have hho:=hh.below hy
     have khy:=kh.below hy
     obtain ⟨p00,p01⟩:=khy.two_
     have pz0:=khy.lt
     go_wp2_with fail
     refine (Splits_wr (some ⟨sb,so,none⟩) TA c' d' _ (k : Int) segs atts _ hho HZ.out.1 HO.out (by omega) (by omega) (HC.out k)).mono ?_
     rintro e wq ⟨P,np,cp,bq,rfl,hnp,hwr,hb⟩
     have hyq:=below_up hy hb
     have hbq : w14.heap.size ≤ wr.heap.size:=hy.size
     clear hb p00 p01 pz0 khy hho
     go_wp2_with fail
     go_loopw [80] (fun j wv => ∃ i : Nat,i ≤ np ∧ j = .int .i64 i ∧ WrT wv wr.heap.size 3 1 P np ∧ Below w14.heap.size w14 wv) (fun j _ => np - (intOf j).toNat)
     case atStart => exact ⟨0,Nat.zero_le _,rfl,hwr,hyq⟩
     case round =>
      clear hwr hyq
      obtain ⟨i,hi,rfl,hwr,hyq⟩:=hrel
      by_cases hil : i < np
      ·obtain ⟨gs,u,rfl,hgb,hgl,cu,fu,hty⟩:=hwr.cell hil
       have hw2:=hwr.poke gs i (.int .i64 777)
       have hy2:=Below.setCell hyq (p:=⟨gs,i,none⟩) (Nat.le_trans hbq hgb) (.int .i64 777)
       clear hwr hyq
       go_wp2_with fail
       go_roundw
       case rel => exact ⟨i + 1,by omega,by go_num,hw2,hy2⟩
       case measure => simp [intOf]; omega
      ·have hin : i = np:=by omega
       subst hin
       clear hwr
       go_wp2_with fail
       go_roundw
       case rel => exact ⟨k + 1,by omega,by omega,by go_num,hyq⟩
       case measure => simp [intOf]; omega
    ·have hk : k = 7:=by omega
     subst hk
     have hh:=hh.below hy
     have hh2:=hh2.below hy
     have kh:=kh.below hy
     have kg:=kg.below hy
     have hrX:=hrX.below hy
     have hrY:=hrY.below hy
     have hx:=below_up hx hy
     clear hy
     obtain ⟨w9,hw9⟩ : ∃ W9,W9 = wr:=⟨_,rfl⟩
     subst hw9
     obtain ⟨p00,p01⟩:=kh.two_
     have pz0:=kh.lt
     go_wp2_with fail
     refine (Compare_wr (some ⟨sb,so,none⟩) TA AX c' d' cX _ _ lX segs atts _ hh HZ.out.1 hrX (by omega) HO.out).mono ?_
     rintro e w10 ⟨DA,nd,cd,bd,zd,rfl,hnd,hwr,hb⟩

     clear p00 p01 pz0
     by_cases hzd : zd = 0
     ·subst hzd
      go_wp2_with fail
      go_loopw [98] (fun j wv => ∃ i : Nat,i ≤ nd ∧ j = .int .i64 i ∧ WrT wv w9.heap.size 77 4 DA nd ∧ Below w9.heap.size w9 wv) (fun j _ => nd - (intOf j).toNat)
      case atStart => exact ⟨0,Nat.zero_le _,rfl,hwr,hb⟩
      case round =>
       clear hwr hb
       obtain ⟨i,hi,rfl,hwr,hb⟩:=hrel
       by_cases hil : i < nd
       ·obtain ⟨gs,u,rfl,hgb,hgl,cu,fu⟩:=hwr.cell4 hil
        have hw2:=hwr.poke gs (i * 4) (.string ⟨#[115,112,111,105,108,116]⟩)
        have hb2:=Below.setCell hb (p:=⟨gs,i * 4,none⟩) hgb (.string ⟨#[115,112,111,105,108,116]⟩)
        clear hwr hb
        go_wp2_with fail
        go_roundw
        case rel => exact ⟨i + 1,by omega,by go_num,hw2,hb2⟩
        case measure => simp [intOf]; omega
       ·have hin : i = nd:=by omega
        subst hin
        clear hwr
        have hh:=hh.below hb
        have hh2:=hh2.below hb
        have kh:=kh.below hb
        have kg:=kg.below hb
        have hrX:=hrX.below hb
        have hrY:=hrY.below hb
        have hx:=below_up hx hb
        clear hb
        obtain ⟨p00,p01⟩:=kh.two_
        have pz0:=kh.lt
        obtain ⟨p10,p11⟩:=kg.two_
        have pz1:=kg.lt
        go_wp2_with fail
        refine (sameHistory_any (some ⟨sb,so,none⟩) TA SB TB c' d' c2 d2 _ _ segs segs atts atts _ hh hh2 (by omega) (by omega) (by omega) (by omega) HL9.out HL9.out).mono ?_
        rintro e w11 ⟨rfl,hb11⟩
        rw [decide_eq_true (⟨rfl,rfl⟩ : segs = segs ∧ atts = atts)]
        have hrX:=hrX.below hb11
        have hrY:=hrY.below hb11
        have hx:=below_up hx hb11
        clear hb11 p00 p01 pz0 p10 p11 pz1
        go_wp2_with fail
        refine (equalI_any AX AY cX cY _ _ lX lX _ hrX hrY (by omega) (by omega)).mono ?_
        rintro e w12 ⟨rfl,q,rfl⟩
        rw [decide_eq_true (rfl : lX = lX)]
        go_wp2_with fail
        refine (ready_any _).mono ?_
        rintro e w13 ⟨rfl,hb⟩
        go_wp2_with fail
        go_ret
        exact ⟨rfl,below_up (by repeat (first | exact hx | refine Below.alloc ?_ (by first | omega | (simp; omega) | simp) _ | refine below_drewN' ?_ _ | refine Below.drew ?_)) hb⟩
     ·have dz : (zd == 0) = false:=by simpa using hzd
      have dz2 : (zd == 0) = false:=dz
      clear hwr
      have hh:=hh.below hb
      have hh2:=hh2.below hb
      have kh:=kh.below hb
      have kg:=kg.below hb
      have hrX:=hrX.below hb
      have hrY:=hrY.below hb
      have hx:=below_up hx hb
      clear hb
      obtain ⟨p00,p01⟩:=kh.two_
      have pz0:=kh.lt
      obtain ⟨p10,p11⟩:=kg.two_
      have pz1:=kg.lt
      go_wp2_with fail
      refine (sameHistory_any (some ⟨sb,so,none⟩) TA SB TB c' d' c2 d2 _ _ segs segs atts atts _ hh hh2 (by omega) (by omega) (by omega) (by omega) HL9.out HL9.out).mono ?_
      rintro e w11 ⟨rfl,hb11⟩
      rw [decide_eq_true (⟨rfl,rfl⟩ : segs = segs ∧ atts = atts)]
      have hrX:=hrX.below hb11
      have hrY:=hrY.below hb11
      have hx:=below_up hx hb11
      clear hb11 p00 p01 pz0 p10 p11 pz1
      go_wp2_with fail
      refine (equalI_any AX AY cX cY _ _ lX lX _ hrX hrY (by omega) (by omega)).mono ?_
      rintro e w12 ⟨rfl,q,rfl⟩
      rw [decide_eq_true (rfl : lX = lX)]
      go_wp2_with fail
      refine (ready_any _).mono ?_
      rintro e w13 ⟨rfl,hb⟩
      go_wp2_with fail
      go_ret
      exact ⟨rfl,below_up (by repeat (first | exact hx | refine Below.alloc ?_ (by first | omega | (simp; omega) | simp) _ | refine below_drewN' ?_ _ | refine Below.drew ?_)) hb⟩
 ·have d9 : decide (1 < (segs.length : Int)) = false:=by simp; omega
  go_wp2_with fail
  clear p00 p01 pz0
  go_loopw [13] (fun i wr => ∃ k : Nat,1 ≤ k ∧ k ≤ 7 ∧ i = .int .i64 k ∧ Below w7.heap.size w7 wr) (fun i _ => 7 - (intOf i).toNat)
  case atStart => exact ⟨1,Nat.le_refl _,by omega,rfl,Below.refl _ _⟩
  case round =>
   obtain ⟨k,hk1,hk7,rfl,hy⟩:=hrel
   by_cases hlt : k ≤ 6
   ·have hho:=hh.below hy
    have khy:=kh.below hy
    obtain ⟨p00,p01⟩:=khy.two_
    have pz0:=khy.lt
    go_wp2_with fail
    refine (Splits_wr SA TA c' d' _ (k : Int) segs atts _ hho HZ.out.1 HO.out (by omega) (by omega) (HC.out k)).mono ?_
    rintro e wq ⟨P,np,cp,bq,rfl,hnp,hwr,hb⟩
    have hyq:=below_up hy hb
    have hbq : w7.heap.size ≤ wr.heap.size:=hy.size
    clear hb p00 p01 pz0 khy hho
    go_wp2_with fail
    go_loopw [80] (fun j wv => ∃ i : Nat,i ≤ np ∧ j = .int .i64 i ∧ WrT wv wr.heap.size 3 1 P np ∧ Below w7.heap.size w7 wv) (fun j _ => np - (intOf j).toNat)
    case atStart => exact ⟨0,Nat.zero_le _,rfl,hwr,hyq⟩
    case round =>
     clear hwr hyq
     obtain ⟨i,hi,rfl,hwr,hyq⟩:=hrel
     by_cases hil : i < np
     ·obtain ⟨gs,u,rfl,hgb,hgl,cu,fu,hty⟩:=hwr.cell hil
      have hw2:=hwr.poke gs i (.int .i64 777)
      have hy2:=Below.setCell hyq (p:=⟨gs,i,none⟩) (Nat.le_trans hbq hgb) (.int .i64 777)
      clear hwr hyq
      go_wp2_with fail
      go_roundw
      case rel => exact ⟨i + 1,by omega,by go_num,hw2,hy2⟩
      case measure => simp [intOf]; omega
     ·have hin : i = np:=by omega
      subst hin
      clear hwr
      go_wp2_with fail
      go_roundw
      case rel => exact ⟨k + 1,by omega,by omega,by go_num,hyq⟩
      case measure => simp [intOf]; omega
   ·have hk : k = 7:=by omega
    subst hk
    have hh:=hh.below hy
    have hh2:=hh2.below hy
    have kh:=kh.below hy
    have kg:=kg.below hy
    have hrX:=hrX.below hy
    have hrY:=hrY.below hy
    have hx:=below_up hx hy
    clear hy
    obtain ⟨w9,hw9⟩ : ∃ W9,W9 = wr:=⟨_,rfl⟩
    subst hw9
    obtain ⟨p00,p01⟩:=kh.two_
    have pz0:=kh.lt
    go_wp2_with fail
    refine (Compare_wr SA TA AX c' d' cX _ _ lX segs atts _ hh HZ.out.1 hrX (by omega) HO.out).mono ?_
    rintro e w10 ⟨DA,nd,cd,bd,zd,rfl,hnd,hwr,hb⟩

    clear p00 p01 pz0
    by_cases hzd : zd = 0
    ·subst hzd
     go_wp2_with fail
     go_loopw [98] (fun j wv => ∃ i : Nat,i ≤ nd ∧ j = .int .i64 i ∧ WrT wv w9.heap.size 77 4 DA nd ∧ Below w9.heap.size w9 wv) (fun j _ => nd - (intOf j).toNat)
     case atStart => exact ⟨0,Nat.zero_le _,rfl,hwr,hb⟩
     case round =>
      clear hwr hb
      obtain ⟨i,hi,rfl,hwr,hb⟩:=hrel
      by_cases hil : i < nd
      ·obtain ⟨gs,u,rfl,hgb,hgl,cu,fu⟩:=hwr.cell4 hil
       have hw2:=hwr.poke gs (i * 4) (.string ⟨#[115,112,111,105,108,116]⟩)
       have hb2:=Below.setCell hb (p:=⟨gs,i * 4,none⟩) hgb (.string ⟨#[115,112,111,105,108,116]⟩)
       clear hwr hb
       go_wp2_with fail
       go_roundw
       case rel => exact ⟨i + 1,by omega,by go_num,hw2,hb2⟩
       case measure => simp [intOf]; omega
      ·have hin : i = nd:=by omega
       subst hin
       clear hwr
       have hh:=hh.below hb
       have hh2:=hh2.below hb
       have kh:=kh.below hb
       have kg:=kg.below hb
       have hrX:=hrX.below hb
       have hrY:=hrY.below hb
       have hx:=below_up hx hb
       clear hb
       obtain ⟨p00,p01⟩:=kh.two_
       have pz0:=kh.lt
       obtain ⟨p10,p11⟩:=kg.two_
       have pz1:=kg.lt
       go_wp2_with fail
       refine (sameHistory_any SA TA SB TB c' d' c2 d2 _ _ segs segs atts atts _ hh hh2 (by omega) (by omega) (by omega) (by omega) HL9.out HL9.out).mono ?_
       rintro e w11 ⟨rfl,hb11⟩
       rw [decide_eq_true (⟨rfl,rfl⟩ : segs = segs ∧ atts = atts)]
       have hrX:=hrX.below hb11
       have hrY:=hrY.below hb11
       have hx:=below_up hx hb11
       clear hb11 p00 p01 pz0 p10 p11 pz1
       go_wp2_with fail
       refine (equalI_any AX AY cX cY _ _ lX lX _ hrX hrY (by omega) (by omega)).mono ?_
       rintro e w12 ⟨rfl,q,rfl⟩
       rw [decide_eq_true (rfl : lX = lX)]
       go_wp2_with fail
       refine (ready_any _).mono ?_
       rintro e w13 ⟨rfl,hb⟩
       go_wp2_with fail
       go_ret
       exact ⟨rfl,below_up (by repeat (first | exact hx | refine Below.alloc ?_ (by first | omega | (simp; omega) | simp) _ | refine below_drewN' ?_ _ | refine Below.drew ?_)) hb⟩
    ·have dz : (zd == 0) = false:=by simpa using hzd
     have dz2 : (zd == 0) = false:=dz
     clear hwr
     have hh:=hh.below hb
     have hh2:=hh2.below hb
     have kh:=kh.below hb
     have kg:=kg.below hb
     have hrX:=hrX.below hb
     have hrY:=hrY.below hb
     have hx:=below_up hx hb
     clear hb
     obtain ⟨p00,p01⟩:=kh.two_
     have pz0:=kh.lt
     obtain ⟨p10,p11⟩:=kg.two_
     have pz1:=kg.lt
     go_wp2_with fail
     refine (sameHistory_any SA TA SB TB c' d' c2 d2 _ _ segs segs atts atts _ hh hh2 (by omega) (by omega) (by omega) (by omega) HL9.out HL9.out).mono ?_
     rintro e w11 ⟨rfl,hb11⟩
     rw [decide_eq_true (⟨rfl,rfl⟩ : segs = segs ∧ atts = atts)]
     have hrX:=hrX.below hb11
     have hrY:=hrY.below hb11
     have hx:=below_up hx hb11
     clear hb11 p00 p01 pz0 p10 p11 pz1
     go_wp2_with fail
     refine (equalI_any AX AY cX cY _ _ lX lX _ hrX hrY (by omega) (by omega)).mono ?_
     rintro e w12 ⟨rfl,q,rfl⟩
     rw [decide_eq_true (rfl : lX = lX)]
     go_wp2_with fail
     refine (ready_any _).mono ?_
     rintro e w13 ⟨rfl,hb⟩
     go_wp2_with fail
     go_ret
     exact ⟨rfl,below_up (by repeat (first | exact hx | refine Below.alloc ?_ (by first | omega | (simp; omega) | simp) _ | refine below_drewN' ?_ _ | refine Below.drew ?_)) hb⟩
end Go.Proofs.YtapjahbflhingaaGreatDoor
