/- Texts of this seat, laid together: Hf Cs Cp. -/
import Derived.Deep.DeepCutAuto
import Derived.Test.YtapjahbflhingaaGreatDoorBu23
import Derived.Test.YtapjahbflhingaaGreatDoorBu25
import Derived.Test.YtapjahbflhingaaGreatDoorBu40
import Derived.Test.YtapjahbflhingaaGreatDoorBu41
import Derived.Test.YtapjahbflhingaaGreatDoorBu21
import Derived.Test.YtapjahbflhingaaGreatDoorBu32
import Derived.Test.YtapjahbflhingaaGreatDoorBu39
/- The walks of segment.Times, Golds, Records (and of SumOfBest and Best where a history is not right), splitref1.AttemptAt and RecordsOf. -/
namespace Go.Proofs.YtapjahbflhingaaGreatDoor
set_option linter.unusedVariables false
set_option linter.unusedSimpArgs false
open Go.RowKit

set_option maxHeartbeats 1000000 in
theorem SumOfBest_bad (SA TA : Option Addr) (c d lo : Nat) (segs : List (List UInt8)) (atts : List Att) (w : World) (hh : Hist w lo SA TA segs atts) (hz : HistSz segs atts c) (hf : histF segs atts ≠ 0) :
  Calls Tryz.prog 56 #[.agg #[.slice SA segs.length c,.slice TA atts.length d]] w fun e w' => e = .returned (.tuple #[.int .i64 0,.bool false,.int .i64 (histF segs atts)]) ∧ Below w.heap.size w w':=by
 have d5 : (histF segs atts != 0) = true:=by simpa using hf
 clear hf
 go_enter Tryz.func56,Tryz.ntmps56
 go_wp2_with fail
 have hb0 : Below w.heap.size w (w.alloc (.cells #[.slice SA segs.length c,.slice TA atts.length d] 29)):=(Below.refl _ _).alloc (Nat.le_refl _) _
 have hk0 : Blk (w.alloc (.cells #[.slice SA segs.length c,.slice TA atts.length d] 29)) w.heap.size 29 #[.slice SA segs.length c,.slice TA atts.length d]:=Blk.new _ _ _
 have hh0:=hh.alloc (.cells #[.slice SA segs.length c,.slice TA atts.length d] 29)
 generalize w.alloc (.cells #[.slice SA segs.length c,.slice TA atts.length d] 29) = w0 at *
 refine (checkHistory_any _ _ _ _ _ segs atts _ hh0 hz.hc hz.h9 hz.h8 hz.h7 hz.h6).mono ?_
 rintro e w1 ⟨rfl,hb1⟩
 have hh1:=hh0.below hb1
 have hk1:=hk0.below hb1
 have hx1:=hb0.trans (hb1.mono hb0.size)
 clear hb1 hb0 hh0 hk0 hh
 generalize he : histF segs atts = ef at *
 have HE:=Lib.hid he
 clear he
 go_wp2_with fail
 go_returns
 exact ⟨by first | (rw [HE.out]; done) | (rw [HE.out]; rfl),hx1⟩
set_option maxHeartbeats 1000000 in
theorem Best_bad (SA TA : Option Addr) (c d lo : Nat) (segs : List (List UInt8)) (atts : List Att) (w : World) (hh : Hist w lo SA TA segs atts) (hz : HistSz segs atts c) (hf : histF segs atts ≠ 0) :
  Calls Tryz.prog 30 #[.agg #[.slice SA segs.length c,.slice TA atts.length d]] w fun e w' => e = .returned (.tuple #[.int .i64 0,.int .i64 0,.bool false,.int .i64 (histF segs atts)]) ∧ Below w.heap.size w w':=by
 have d5 : (histF segs atts != 0) = true:=by simpa using hf
 clear hf
 go_enter Tryz.func30,Tryz.ntmps30
 go_wp2_with fail
 have hb0 : Below w.heap.size w (w.alloc (.cells #[.slice SA segs.length c,.slice TA atts.length d] 29)):=(Below.refl _ _).alloc (Nat.le_refl _) _
 have hk0 : Blk (w.alloc (.cells #[.slice SA segs.length c,.slice TA atts.length d] 29)) w.heap.size 29 #[.slice SA segs.length c,.slice TA atts.length d]:=Blk.new _ _ _
 have hh0:=hh.alloc (.cells #[.slice SA segs.length c,.slice TA atts.length d] 29)
 generalize w.alloc (.cells #[.slice SA segs.length c,.slice TA atts.length d] 29) = w0 at *
 refine (checkHistory_any _ _ _ _ _ segs atts _ hh0 hz.hc hz.h9 hz.h8 hz.h7 hz.h6).mono ?_
 rintro e w1 ⟨rfl,hb1⟩
 have hh1:=hh0.below hb1
 have hk1:=hk0.below hb1
 have hx1:=hb0.trans (hb1.mono hb0.size)
 clear hb1 hb0 hh0 hk0 hh
 generalize he : histF segs atts = ef at *
 have HE:=Lib.hid he
 clear he
 go_wp2_with fail
 go_returns
 exact ⟨by first | (rw [HE.out]; done) | (rw [HE.out]; rfl),hx1⟩
end Go.Proofs.YtapjahbflhingaaGreatDoor
/- The walk of segment.splits at a right history. -/
namespace Go.Proofs.YtapjahbflhingaaGreatDoor
set_option linter.unusedVariables false
set_option linter.unusedSimpArgs false
open Go.RowKit Go.Sort

theorem rowsQ_any (p : Nat) (SA TA : Option Addr) (c d lo : Nat) (segs : List (List UInt8)) (atts : List Att) (w : World) (hp : Blk w p 29 #[.slice SA segs.length c,.slice TA atts.length d]) (hh : Hist w lo SA TA segs atts) (hok : HistOk segs atts) :
  Calls Tryz.prog 52 #[.pointer (some ⟨p,0,none⟩)] w fun e w' => ∃ g c',e = .returned (.slice (some ⟨g,0,none⟩) (rowsQ atts segs.length).length c') ∧ w.heap.size ≤ g ∧ Nest 3 22 w' w.heap.size g (rowsQ atts segs.length) ∧ Below w.heap.size w w' :=
 (rows_any p SA TA c d lo segs atts w hp hh hok).mono (by
  rintro e w' ⟨g,c',rfl,h1,h2,h3⟩
  rw [rowsS_full] at h2
  exact ⟨g,c',by rw [rowsQ_len],h1,h2,h3⟩)
theorem cmpO_1 (n : Nat) (atts : List Att) : cmpO n atts 1 = bestO n atts:=by simp [cmpO]
theorem cmpO_2 (n : Nat) (atts : List Att) : cmpO n atts 2 = eachO goldF (rowsQ atts n):=by simp [cmpO]
theorem cmpO_3 (n : Nat) (atts : List Att) : cmpO n atts 3 = eachO mnA (rowsQ atts n):=by simp [cmpO]
theorem cmpO_4 (n : Nat) (atts : List Att) : cmpO n atts 4 = eachO (fun r => levA r 500) (rowsQ atts n):=by simp [cmpO]
theorem cmpO_5 (n : Nat) (atts : List Att) : cmpO n atts 5 = lastO n atts atts.length:=by simp [cmpO]
theorem cmpO_6 {n : Nat} {atts : List Att} {how : Int} (h1 : how ≠ 1) (h2 : how ≠ 2) (h3 : how ≠ 3) (h4 : how ≠ 4) (h5 : how ≠ 5) : cmpO n atts how = if bI n atts atts.length < 0 then none else if fullB (rowsQ atts n) then evenO (rowsQ atts n) (bT n atts) else none:=by simp [cmpO,h1,h2,h3,h4,h5]
def SplitsPost (w : World) (o : Option (List Int)) (e : Ending) (w' : World) : Prop :=
 ∃ A' c',e = .returned (.tuple #[.slice A' (optL o).length c',.bool o.isSome]) ∧ w'.ownsRow w.heap.size 3 1 (.slice A' (optL o).length c') (optL o).length (ints (optL o)) ∧ Below w.heap.size w w'
theorem SplitsPost.none_ {w w' : World} {o : Option (List Int)} (h : o = none) (hb : Below w.heap.size w w') : SplitsPost w o (.returned (.tuple #[.slice none 0 0,.bool false])) w':=by
 subst h; exact ⟨none,0,rfl,World.ownsRow_nil _ _ _ _,hb⟩
theorem SplitsPost.some_ {w w' : World} {o : Option (List Int)} {l : List Int} {A : Option Addr} {c base : Nat} (h : o = some l) (ho : w'.ownsRow base 3 1 (.slice A l.length c) l.length (ints l)) (hz : w.heap.size ≤ base) (hb : Below w.heap.size w w') : SplitsPost w o (.returned (.tuple #[.slice A l.length c,.bool true])) w':=by
 subst h; exact ⟨A,c,rfl,own_weak ho hz,hb⟩
theorem SplitsPost.of {w w1 w' : World} {o : Option (List Int)} {A : Option Addr} {c : Nat} (ho : w'.ownsRow w1.heap.size 3 1 (.slice A (optL o).length c) (optL o).length (ints (optL o))) (hx : Below w.heap.size w w1) (hb : Below w1.heap.size w1 w') : SplitsPost w o (.returned (.tuple #[.slice A (optL o).length c,.bool o.isSome])) w' :=
 ⟨A,c,rfl,own_weak ho hx.size,below_up hx hb⟩
set_option maxHeartbeats 8000000 in
set_option maxRecDepth 100000 in
theorem splits_ok (p : Nat) (SA TA : Option Addr) (c d lo : Nat) (how : Int) (segs : List (List UInt8)) (atts : List Att) (w : World) (hp : Blk w p 29 #[.slice SA segs.length c,.slice TA atts.length d]) (hh : Hist w lo SA TA segs atts) (hok : HistOk segs atts) :
  Calls Tryz.prog 83 #[.pointer (some ⟨p,0,none⟩),.int .i64 how] w (SplitsPost w (cmpO segs.length atts how)):=by
 have HO:=Lib.hid hok
 have n1:=hok.n1
 have n2:=hok.n2
 have hm:=hok.m
 have HRL:=Lib.hid (rowsQ_len atts segs.length)
 have HROK:=Lib.hid (rowsQ_ok hok segs.length)
 have H1:=Lib.hid (cmpO_1 segs.length atts)
 have H2:=Lib.hid (cmpO_2 segs.length atts)
 have H3:=Lib.hid (cmpO_3 segs.length atts)
 have H4:=Lib.hid (cmpO_4 segs.length atts)
 have H5:=Lib.hid (cmpO_5 segs.length atts)
 have H6:=Lib.hid (fun (how : Int) => cmpO_6 (n:=segs.length) (atts:=atts) (how:=how))
 clear hok
 go_enter Tryz.func83,Tryz.ntmps83
 go_wp2_with fail
 refine (rowsQ_any _ _ _ _ _ _ segs atts _ hp hh HO.out).mono ?_
 rintro e w1 ⟨g,c',rfl,hg,hN,hb⟩
 have hp:=hp.below hb
 have hh:=hh.below hb
 have hx:=hb
 clear hb
 have hrl : 1 ≤ (rowsQ atts segs.length).length ∧ (rowsQ atts segs.length).length ≤ 60:=by rw [HRL.out]; omega
 generalize rowsQ atts segs.length = rows at *
 go_wp2_with fail
 have hk1 : Blk (w1.alloc (.cells #[.slice (some ⟨g,0,none⟩) rows.length c'] 98)) w1.heap.size 98 #[.slice (some ⟨g,0,none⟩) rows.length c']:=Blk.new _ _ _
 have hb : Below w1.heap.size w1 (w1.alloc (.cells #[.slice (some ⟨g,0,none⟩) rows.length c'] 98)):=(Below.refl _ _).alloc (Nat.le_refl _) _
 have hp:=hp.below hb
 have hh:=hh.below hb
 have hN:=hN.below hb
 have hx:=below_up hx hb
 generalize w1.alloc (.cells #[.slice (some ⟨g,0,none⟩) rows.length c'] 98) = w2 at *
 generalize hb1 : w1.heap.size = b1 at *
 clear hb hb1
 refine (containsFuncN_any g _ c' rows _ hN hrl.2).mono ?_
 rintro e w9 ⟨rfl,rfl⟩
 go_wp2_with fail
 have hk2 : Blk (w2.alloc (.cells #[.bool (fullB rows)] 4)) w2.heap.size 4 #[.bool (fullB rows)]:=Blk.new _ _ _
 have hb : Below w2.heap.size w2 (w2.alloc (.cells #[.bool (fullB rows)] 4)):=(Below.refl _ _).alloc (Nat.le_refl _) _
 have hp:=hp.below hb
 have hh:=hh.below hb
 have hN:=hN.below hb
 have hk1:=hk1.below hb
 have hx:=below_up hx hb
 generalize hb2 : w2.heap.size = b2 at *
 generalize w2.alloc (.cells #[.bool (fullB rows)] 4) = w3 at *
 clear hb hb2
 refine (best_ok _ _ _ _ _ _ segs atts _ hp hh n1 n2 (by omega)).mono ?_
 rintro e w4 ⟨rfl,hb⟩
 have hp:=hp.below hb
 have hh:=hh.below hb
 have hN:=hN.below hb
 have hk1:=hk1.below hb
 have hk2:=hk2.below hb
 have hx:=below_up hx hb
 clear hb
 have hbI:=bI_inv segs.length atts atts.length (Nat.le_refl _)
 obtain ⟨p0,p1⟩:=hp.two_
 have zp:=hp.lt
 have zx:=hx.size
 by_cases h1 : how = 1
 ·have d1 : (how == 1) = true:=by simpa using h1
  have HC : Hid (cmpO segs.length atts how = bestO segs.length atts):=Lib.hid (by rw [h1]; exact H1.out)
  clear h1 H1 H2 H3 H4 H5 H6
  rcases hbI with h | ⟨j,hj,h,_,hn⟩
  ·have HB:=Lib.hid (bestO_none h)
   rw [h]
   clear h
   go_wp2_with fail
   go_returns
   exact .none_ (HC.out.trans HB.out) hx
  ·have HB:=Lib.hid (bestO_at h hj)
   rw [h]
   obtain ⟨tb,tO,B,cc,rfl,ztb,t0,t1,hrB⟩:=hh.att hj
   have HSP:=Lib.hid (HO.out.spl j hj)
   have hsl:=HSP.out.len
   generalize atts[j].2 = l at *
   clear h hn
   go_wp2_with fail
   refine (cloneI_any B cc _ l _ hrB (by omega)).mono ?_
   rintro e w5 ⟨A5,c5,rfl,ho5,hb5⟩
   go_wp2_with fail
   go_returns
   exact .some_ (HC.out.trans HB.out) ho5 zx (below_up hx hb5)
 have d1 : (how == 1) = false:=by simpa using h1
 by_cases h2 : how = 2
 ·have d2 : (how == 2) = true:=by simpa using h2
  have HC : Hid (cmpO segs.length atts how = eachO goldF rows):=Lib.hid (by rw [h2]; exact H2.out)
  clear h2 H1 H2 H3 H4 H5 H6
  go_wp2_with fail
  refine (each2_any b2 b1 g _ c' rows _ hk2 hk1 hN HROK.out hrl.2).mono ?_
  rintro e w4 ⟨A5,c5,rfl,ho5,hb5⟩
  go_wp2_with fail
  go_returns
  rw [HC.out]
  exact .of ho5 hx hb5
 have d2 : (how == 2) = false:=by simpa using h2
 by_cases h3 : how = 3
 ·have d3 : (how == 3) = true:=by simpa using h3
  have HC : Hid (cmpO segs.length atts how = eachO mnA rows):=Lib.hid (by rw [h3]; exact H3.out)
  clear h3 H1 H2 H3 H4 H5 H6
  go_wp2_with fail
  refine (each3_any b2 b1 g _ c' rows _ hk2 hk1 hN HROK.out hrl.2).mono ?_
  rintro e w4 ⟨A5,c5,rfl,ho5,hb5⟩
  go_wp2_with fail
  go_returns
  rw [HC.out]
  exact .of ho5 hx hb5
 have d3 : (how == 3) = false:=by simpa using h3
 by_cases h4 : how = 4
 ·have d4 : (how == 4) = true:=by simpa using h4
  have HC : Hid (cmpO segs.length atts how = eachO (fun r => levA r 500) rows):=Lib.hid (by rw [h4]; exact H4.out)
  clear h4 H1 H2 H3 H4 H5 H6
  go_wp2_with fail
  refine (each4_any b2 b1 g _ c' rows _ hk2 hk1 hN HROK.out hrl.2).mono ?_
  rintro e w4 ⟨A5,c5,rfl,ho5,hb5⟩
  go_wp2_with fail
  go_returns
  rw [HC.out]
  exact .of ho5 hx hb5
 have d4 : (how == 4) = false:=by simpa using h4
 by_cases h5 : how = 5
 ·have d5 : (how == 5) = true:=by simpa using h5
  have HC : Hid (cmpO segs.length atts how = lastO segs.length atts atts.length):=Lib.hid (by rw [h5]; exact H5.out)
  clear h1 h2 h3 h4 h5 H1 H2 H3 H4 H5 H6 hbI hk1 hk2 hN
  have wl : IntKind.i64.wrap ((atts.length : Int) - 1) = (atts.length : Int) - 1:=IntWalk.i64_in _ ⟨by omega,by omega⟩
  go_wp2_with fail
  go_loopw [10] (fun i wr => ∃ k : Nat,k ≤ atts.length ∧ i = .int .i64 ((k : Int) - 1) ∧ Hid (lastO segs.length atts atts.length = lastO segs.length atts k) ∧ Below w4.heap.size w4 wr) (fun i _ => (intOf i + 1).toNat)
  case atStart => exact ⟨atts.length,Nat.le_refl _,rfl,Lib.hid rfl,Below.refl _ _⟩
  case round =>
   clear p0 p1 wl
   obtain ⟨k,hk,rfl,HE,hbw⟩:=hrel
   have hz:=hbw.size
   rcases k with _ | q
   ·have HF : Hid (lastO segs.length atts atts.length = none):=HE
    have e1 : ((0 : Nat) : Int) - 1 = -1:=by omega
    rw [e1]
    go_wp2_with fail
    go_returns
    exact .none_ (HC.out.trans HF.out) (below_up hx hbw)
   ·have e1 : ((q + 1 : Nat) : Int) - 1 = (q : Int):=by omega
    rw [e1]
    clear e1
    have hq : q < atts.length:=by omega
    have hpw:=hp.below hbw
    obtain ⟨p0,p1⟩:=hpw.two_
    have zpw:=hpw.lt
    obtain ⟨tb,tO,B,cc,rfl,ztb,t0,t1,hrB⟩:=(hh.below hbw).att hq
    have HSP:=Lib.hid (HO.out.spl q hq)
    have hsl:=HSP.out.len
    have d0 : decide ((0 : Int) ≤ (q : Int)) = true:=decide_eq_true (by omega)
    have HY:=Lib.hid (fun h => lastO_yes (n:=segs.length) hq h)
    have HN:=Lib.hid (fun h => lastO_no (n:=segs.length) hq h)
    have hrBa:=hrB.alloc (.cells #[.int .i64 atts[q].1,.slice B atts[q].2.length cc] 81)
    have hka : Blk (wr.alloc (.cells #[.int .i64 atts[q].1,.slice B atts[q].2.length cc] 81)) wr.heap.size 81 #[.int .i64 atts[q].1,.slice B atts[q].2.length cc]:=Blk.new _ _ _
    have hpa:=hpw.below ((Below.refl _ _).alloc (Nat.le_refl _) (.cells #[.int .i64 atts[q].1,.slice B atts[q].2.length cc] 81))
    have hba : Below w4.heap.size w4 (wr.alloc (.cells #[.int .i64 atts[q].1,.slice B atts[q].2.length cc] 81)):=(by repeat (first | exact hbw | refine Below.alloc ?_ (by first | omega | (simp; omega)) _ | refine below_drewN' ?_ _ | refine Below.drew ?_))
    generalize atts[q].1 = no at *
    generalize atts[q].2 = l at *
    clear hrB hbw hpw
    go_wp2_with fail
    refine (finished_any p _ _ _ _ _ _ _ 0 _ _ _ _ hpa).mono ?_
    rintro e w5 ⟨rfl,hb5⟩
    have hrB5:=hrBa.below hb5
    have hk5:=hka.below hb5
    obtain ⟨k0,k1⟩:=hk5.two_
    have zk5:=hk5.lt
    have hx5:=below_up hba hb5
    clear hrBa hka hpa hba hb5
    by_cases hf : l.length = segs.length
    ·have HF : Hid (lastO segs.length atts atts.length = some l):=Lib.hid (by rw [HE.out,HY.out hf])
     have d9 : decide (l.length = segs.length) = true:=decide_eq_true hf
     clear hf HY HN HE
     rw [d9]
     go_wp2_with fail
     refine (cloneI_any B cc _ l _ hrB5 (by omega)).mono ?_
     rintro e w6 ⟨A6,c6,rfl,ho6,hb6⟩
     have zx5:=hx5.size
     go_wp2_with fail
     go_returns
     exact .some_ (HC.out.trans HF.out) ho6 (by omega) (below_up hx (below_up hx5 hb6))
    ·have HF : Hid (lastO segs.length atts atts.length = lastO segs.length atts q):=Lib.hid (by rw [HE.out,HN.out hf])
     have d9 : decide (l.length = segs.length) = false:=decide_eq_false hf
     clear hf HY HN HE
     rw [d9]
     go_wp2_with fail
     go_roundw
     case rel => exact ⟨q,by omega,by go_num,HF,hx5⟩
     case measure => simp [intOf]
 have d5 : (how == 5) = false:=by simpa using h5
 have HC:=Lib.hid (H6.out how h1 h2 h3 h4 h5)
 clear h1 h2 h3 h4 h5 H1 H2 H3 H4 H5 H6
 rcases hbI with h | ⟨j,hj,h,_,hn⟩
 ·have HN : Hid (cmpO segs.length atts how = none):=Lib.hid (by rw [HC.out,h]; rfl)
  rw [h]
  clear h
  go_wp2_with fail
  go_returns
  exact .none_ HN.out hx
 ·have hneg : ¬ ((j : Int) < 0):=by omega
  have HJ:=Lib.hid (HC.out.trans (by rw [h,if_neg hneg]))
  rw [h]
  clear hneg
  have dj : decide ((j : Int) < 0) = false:=decide_eq_false (by omega)
  have cf : w4.cell? ⟨b2,0,none⟩ = some (.bool (fullB rows)):=by simpa using hk2.cell 0
  have zf:=hk2.lt
  by_cases hF : fullB rows = true
  ·have HK:=Lib.hid (HJ.out.trans (if_pos hF))
   rw [hF] at cf
   have HFU:=Lib.hid hF
   have cb : w4.cell? ⟨b1,0,none⟩ = some (.slice (some ⟨g,0,none⟩) rows.length c'):=by simpa using hk1.cell 0
   have zb:=hk1.lt
   obtain ⟨tb,tO,B,cc,rfl,ztb,t0,t1,hrB⟩:=hh.att hj
   obtain ⟨l,hl⟩ : ∃ l,l + 1 = segs.length:=⟨segs.length - 1,by omega⟩
   have hl1 : l < atts[j].2.length:=by omega
   obtain ⟨b5,o5,rfl,_,zb5,x5⟩:=hrB.int_at hl1
   have hmost : bT segs.length atts = atts[j].2[l]:=by
    have:=(bT_at h hj hn (by omega)).1
    rw [this]; congr 1; omega
   have HM:=Lib.hid (HK.out.trans (by rw [hmost]))
   have wl : IntKind.i64.wrap ((segs.length : Int) - 1) = (l : Int):=by rw [IntWalk.i64_in _ ⟨by omega,by omega⟩]; omega
   have hls : l < segs.length:=by omega
   rw [hn] at t1
   generalize atts[j].2[l] = most at *
   clear hmost h hF hn hl1 hrB
   have HEV : Hid (evenO rows most = (evF rows most 1001).map fun p => addA (evL rows (some p))):=Lib.hid rfl
   go_wp2_with fail
   go_region_held3 (fun w' => w'.cell? ⟨b1,0,none⟩ = some (.slice (some ⟨g,0,none⟩) rows.length c') ∧ w'.cell? ⟨b5,o5 + l,none⟩ = some (.int .i64 most)) (first | exact ⟨cb,x5⟩ | exact ⟨cb6,x6⟩)
    (first | (go_at_call 115; refine (even_any g _ c' most rows _ (by first | exact hN | exact hN.drewN 1) HROK.out HFU.out hrl.1 hrl.2).mono ?_; rintro e w6 ⟨A6,c6,rfl,ho6,hb6⟩; have cb6:=(hb6.cell zb).trans cb; have x6:=(hb6.cell zb5).trans x5))
   all_goals
    have hx6 : Below w.heap.size w w6:=by first | exact below_up hx hb6 | exact below_up hx.drew hb6 | exact below_up (below_drewN' hx _) hb6
    have hz6 : w.heap.size ≤ w4.heap.size:=zx
    have HQ:=Lib.hid (fun q => evF_lt (rows:=rows) (most:=most) 1001 q)
    have HMB:=Lib.hid (fun (q : Nat) (hq : q < 1001) => mapF_bd (rows:=rows) (f:=(levA · q)) (fun r hm hl => by have:=levA_bd (HROK.out r hm) (part:=q) hl (by omega); omega) HFU.out)
    clear hp hh hN hk1 hk2 hx hb6 cb x5 cb6 x6 p0 p1 cf t0 t1
    generalize evF rows most 1001 = o at *
    cases o with
    | none =>
     have HN : Hid (cmpO segs.length atts how = none):=Lib.hid (by rw [HM.out,HEV.out]; rfl)
     go_wp2_with fail
     go_returns
     exact .none_ HN.out hx6
    | some q =>
     have HN : Hid (cmpO segs.length atts how = some (addA (evL rows (some q)))):=Lib.hid (by rw [HM.out,HEV.out]; rfl)
     have HB2 : Hid (∀ x ∈ evL rows (some q),0 ≤ x ∧ x ≤ 864000000):=Lib.hid (HMB.out q (HQ.out q rfl).1)
     have hll : (evL rows (some q)).length ≤ 60:=by show (rows.map _).length ≤ 60; simpa using hrl.2
     generalize evL rows (some q) = l at *
     go_wp2_with fail
     refine (added_any A6 c6 _ l _ (Row.of_own ho6) hll HB2.out).mono ?_
     rintro e w7 ⟨A7,c7,rfl,ho7,hb7⟩
     have hzz:=hx6.size
     go_wp2_with fail
     go_returns
     exact .some_ HN.out ho7 hzz (below_up hx6 hb7)
  ·have hF' : fullB rows = false:=by simpa using hF
   rw [hF'] at cf
   have HN:=Lib.hid (HJ.out.trans (if_neg hF))
   clear hF hF'
   go_wp2_with fail
   go_returns
   exact .none_ HN.out hx
end Go.Proofs.YtapjahbflhingaaGreatDoor
/- The walks of segment.howFault, Splits and Level. -/
namespace Go.Proofs.YtapjahbflhingaaGreatDoor
set_option linter.unusedVariables false
set_option linter.unusedSimpArgs false
open Go.RowKit Go.Sort

def howE (how : Int) : Int:=if how < 1 ∨ 6 < how then 4 else 0
def hfE (segs : List (List UInt8)) (atts : List Att) (how : Int) : Int:=if histF segs atts ≠ 0 then histF segs atts else howE how
theorem hfE_bad {segs : List (List UInt8)} {atts : List Att} {how : Int} (h : histF segs atts ≠ 0) : hfE segs atts how = histF segs atts:=by simp [hfE,h]
theorem hfE_ok {segs : List (List UInt8)} {atts : List Att} {how : Int} (h : histF segs atts = 0) : hfE segs atts how = howE how:=by simp [hfE,h]
set_option maxHeartbeats 1000000 in
theorem howFault_any (p : Nat) (SA TA : Option Addr) (c d lo : Nat) (how : Int) (segs : List (List UInt8)) (atts : List Att) (w : World) (hp : Blk w p 29 #[.slice SA segs.length c,.slice TA atts.length d]) (hh : Hist w lo SA TA segs atts) (hz : HistSz segs atts c) :
  Calls Tryz.prog 82 #[.pointer (some ⟨p,0,none⟩),.int .i64 how] w fun e w' => e = .returned (.int .i64 (hfE segs atts how)) ∧ Below w.heap.size w w':=by
 obtain ⟨p0,p1⟩:=hp.two_
 have zp:=hp.lt
 go_enter Tryz.func82,Tryz.ntmps82
 go_wp2_with fail
 refine (checkHistory_any SA TA c d _ segs atts _ hh hz.hc hz.h9 hz.h8 hz.h7 hz.h6).mono ?_
 rintro e w1 ⟨rfl,hb⟩
 by_cases hf : histF segs atts = 0
 ·have HE:=Lib.hid (hfE_ok (how:=how) hf)
  have HW : Hid (howE how = if (decide (how < 1) || decide (6 < how)) = true then 4 else 0):=Lib.hid (by simp [howE])
  rw [hf]
  clear hf
  go_wp2_with fail
  refine (out_any _ _ _ _).mono ?_
  rintro e w2 ⟨rfl,rfl⟩
  generalize (decide (how < 1) || decide (6 < how)) = q at *
  cases q
  ·go_wp2_with fail
   go_ret
   exact ⟨ret_int' (by rw [HE.out,HW.out]; rfl),hb⟩
  ·go_wp2_with fail
   go_ret
   exact ⟨ret_int' (by rw [HE.out,HW.out]; rfl),hb⟩
 ·have HE:=Lib.hid (hfE_bad (how:=how) hf)
  have d5 : (histF segs atts == 0) = false:=by simpa using hf
  clear hf
  generalize histF segs atts = ef at *
  go_wp2_with fail
  go_ret
  exact ⟨ret_int' HE.out.symm,hb⟩
set_option maxHeartbeats 1000000 in
theorem Splits_ok (SA TA : Option Addr) (c d lo : Nat) (how : Int) (segs : List (List UInt8)) (atts : List Att) (w : World) (hh : Hist w lo SA TA segs atts) (hz : HistSz segs atts c) (hok : HistOk segs atts) (he : hfE segs atts how = 0) :
  Calls Tryz.prog 33 #[.agg #[.slice SA segs.length c,.slice TA atts.length d],.int .i64 how] w fun e w' => ∃ A' c',e = .returned (.tuple #[.slice A' (optL (cmpO segs.length atts how)).length c',.bool (cmpO segs.length atts how).isSome,.int .i64 0]) ∧ w'.ownsRow w.heap.size 3 1 (.slice A' (optL (cmpO segs.length atts how)).length c') (optL (cmpO segs.length atts how)).length (ints (optL (cmpO segs.length atts how))) ∧ Below w.heap.size w w':=by
 have HO:=Lib.hid hok
 have HE:=Lib.hid he
 clear hok he
 go_enter Tryz.func33,Tryz.ntmps33
 go_wp2_with fail
 have hb0 : Below w.heap.size w (w.alloc (.cells #[.slice SA segs.length c,.slice TA atts.length d] 29)):=(Below.refl _ _).alloc (Nat.le_refl _) _
 have hk0 : Blk (w.alloc (.cells #[.slice SA segs.length c,.slice TA atts.length d] 29)) w.heap.size 29 #[.slice SA segs.length c,.slice TA atts.length d]:=Blk.new _ _ _
 have hh0:=hh.alloc (.cells #[.slice SA segs.length c,.slice TA atts.length d] 29)
 generalize w.alloc (.cells #[.slice SA segs.length c,.slice TA atts.length d] 29) = w0 at *
 refine (howFault_any _ _ _ _ _ _ how segs atts _ hk0 hh0 hz).mono ?_
 rintro e w1 ⟨rfl,hb1⟩
 have hh1:=hh0.below hb1
 have hk1:=hk0.below hb1
 have hx1:=below_up hb0 hb1
 clear hb1 hb0 hh0 hk0 hh
 rw [HE.out]
 go_wp2_with fail
 refine (splits_ok _ _ _ _ _ _ how segs atts _ hk1 hh1 HO.out).mono ?_
 rintro e w2 ⟨A',c',rfl,ho,hb2⟩
 have hz1:=hx1.size
 go_wp2_with fail
 go_returns
 exact ⟨A',c',rfl,own_weak ho hz1,below_up hx1 hb2⟩
end Go.Proofs.YtapjahbflhingaaGreatDoor
