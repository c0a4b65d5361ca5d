/- Texts of this seat, laid together: He. -/
import Derived.Handy
import Derived.Test.YtapjahbflhingaaGreatDoorBu38
import Derived.Test.YtapjahbflhingaaGreatDoorBu04
/- The walks of segment.golds and Golds, of splitref1.RowOf and GoldsOf at a right history. -/
namespace Go.Proofs.YtapjahbflhingaaGreatDoor
set_option linter.unusedVariables false
set_option linter.unusedSimpArgs false
open Go.RowKit

theorem goldA_none {atts : List Att} {k : Nat} (h : (sorted (rowA atts k)).length = 0) : goldA atts k = 0:=by
 unfold goldA
 rw [List.eq_nil_of_length_eq_zero h]; rfl
theorem goldA_some {atts : List Att} {k : Nat} (h : 0 < (sorted (rowA atts k)).length) : goldA atts k = (sorted (rowA atts k))[0]:=by
 unfold goldA
 rw [List.headD_eq_head?_getD,List.head?_eq_getElem?,List.getElem?_eq_getElem h]; rfl
set_option maxHeartbeats 2000000 in
theorem golds_any (p : Nat) (SA TA : Option Addr) (c d lo : Nat) (segs : List (List UInt8)) (atts : List Att) (w : World) (hp : Blk w p 29 #[.slice SA segs.length c,.slice TA atts.length d]) (hh : Hist w lo SA TA segs atts) (hok : HistOk segs atts) :
  Calls Tryz.prog 46 #[.pointer (some ⟨p,0,none⟩)] w fun e w' => ∃ A' c',e = .returned (.slice A' (goldL atts segs.length).length c') ∧ w'.ownsRow w.heap.size 3 1 (.slice A' (goldL atts segs.length).length c') (goldL atts segs.length).length (ints (goldL atts segs.length)) ∧ Below w.heap.size w w':=by
 have n1:=hok.n1
 have n2:=hok.n2
 have m:=hok.m
 have HO:=Lib.hid hok
 clear hok
 go_enter Tryz.func46,Tryz.ntmps46
 go_wp2_with fail
 refine (rows_any _ _ _ _ _ _ segs atts _ hp hh HO.out).mono ?_
 rintro e W ⟨g,c',rfl,hg,hN,hbW⟩
 have hzW:=hbW.size
 go_wp2_with fail
 go_loopw [3,10] (fun v i wr => ∃ (k : Nat) (A' : Option Addr) (c' : Nat),k ≤ segs.length ∧ i = .int .i64 k ∧ v = .slice A' (goldL atts k).length c' ∧ wr.ownsRow W.heap.size 3 1 (.slice A' (goldL atts k).length c') (goldL atts k).length (ints (goldL atts k)) ∧ Below W.heap.size W wr) (fun _ i _ => segs.length - (intOf i).toNat)
 case atStart => exact ⟨0,none,0,Nat.zero_le _,rfl,rfl,World.ownsRow_nil _ _ _ _,Below.refl _ _⟩
 case round =>
  obtain ⟨k,A',c',hk,rfl,rfl,hown,hbw⟩:=hrel
  have hz:=hbw.size
  by_cases hlt : k < segs.length
  ·have hNr:=hN.below hbw
   have hPL : k < (rowsS atts segs.length segs.length).length:=by rw [rowsS_len]; omega
   have hat : (rowsS atts segs.length segs.length)[k] = sorted (rowA atts k):=by rw [rowsS_at,if_pos hlt]
   obtain ⟨A1,c1,cg,ho1⟩:=hNr.row hPL
   rw [hat] at cg ho1
   have hgl:=hNr.lt
   have hgs:=goldL_snoc atts k
   have hlk : (goldL atts k).length ≤ 1000:=by rw [goldL_len]; omega
   have HGN:=Lib.hid (goldA_none (atts:=atts) (k:=k))
   have HGS:=Lib.hid (goldA_some (atts:=atts) (k:=k))
   have HS:=Lib.hid hgs
   clear hat hgs hNr
   generalize sorted (rowA atts k) = row at *
   generalize goldL atts k = o at *
   by_cases h0 : 0 < row.length
   ·have HG:=Lib.hid (HGS.out h0)
    have hr1:=Row.of_own ho1
    obtain ⟨b,off,rfl,_,hbs,cr⟩:=hr1.int_at (k:=0) h0
    rw [Nat.add_zero] at cr
    generalize row[0] = x at *
    have d1 : decide (0 < row.length) = true:=by simpa using h0
    have HF : Hid (goldL atts (k + 1) = o ++ [x]):=Lib.hid (by rw [HS.out,HG.out])
    clear HGS HGN HG HS
    go_wp2_with (at_builtin; go_must (refine wpList_app (lo:=W.heap.size) (base:=W.heap.size) (n:=o.length) (xs:=ints o) _ _ rfl _ _ ty_ints rfl (by repeat (first | exact hown | refine World.ownsRow.alloc ?_ _ | refine own_drewN ?_ _ | refine World.ownsRow.drew ?_)) rfl (by first | exact row_new' _ (by first | rfl | simp) (by first | omega | (simp; omega)) rfl | exact row_newN _ _ (by first | rfl | simp) (by first | omega | (simp; omega)) rfl | exact row_newD _ (by first | rfl | simp) (by first | omega | (simp; omega)) rfl) rfl rfl (by first | omega | decide) (by first | omega | decide) (by first | omega | (simp; omega)) ?_))
    intro A5 c5 w5 hown5 hg5 _
    go_wp2_with fail
    go_roundw
    case rel => exact ⟨k + 1,A5,c5,by omega,by go_num,by rw [HF.out]; simp,by rw [HF.out,ints_app,List.length_append]; exact hown5,below_app hown (by repeat (first | exact hbw | refine Below.alloc ?_ (by first | omega | (simp; omega)) _ | refine below_drewN' ?_ _ | refine Below.drew ?_)) hg5 (Nat.le_refl _) (by simp; omega)⟩
    case measure => simp [intOf]; omega
   ·have HG:=Lib.hid (HGN.out (by omega))
    have d1 : decide (0 < row.length) = false:=by simpa using h0
    have HF : Hid (goldL atts (k + 1) = o ++ [0]):=Lib.hid (by rw [HS.out,HG.out])
    clear HGS HGN HG HS
    go_wp2_with (at_builtin; go_must (refine wpList_app (lo:=W.heap.size) (base:=W.heap.size) (n:=o.length) (xs:=ints o) _ _ rfl _ _ ty_ints rfl (by repeat (first | exact hown | refine World.ownsRow.alloc ?_ _ | refine own_drewN ?_ _ | refine World.ownsRow.drew ?_)) rfl (by first | exact row_new' _ (by first | rfl | simp) (by first | omega | (simp; omega)) rfl | exact row_newN _ _ (by first | rfl | simp) (by first | omega | (simp; omega)) rfl | exact row_newD _ (by first | rfl | simp) (by first | omega | (simp; omega)) rfl) rfl rfl (by first | omega | decide) (by first | omega | decide) (by first | omega | (simp; omega)) ?_))
    intro A5 c5 w5 hown5 hg5 _
    go_wp2_with fail
    go_roundw
    case rel => exact ⟨k + 1,A5,c5,by omega,by go_num,by rw [HF.out]; simp,by rw [HF.out,ints_app,List.length_append]; exact hown5,below_app hown (by repeat (first | exact hbw | refine Below.alloc ?_ (by first | omega | (simp; omega)) _ | refine below_drewN' ?_ _ | refine Below.drew ?_)) hg5 (Nat.le_refl _) (by simp; omega)⟩
    case measure => simp [intOf]; omega
  ·have hkn : k = segs.length:=by omega
   subst hkn
   go_wp2_with fail
   go_ret
   exact ⟨A',c',rfl,own_weak hown hzW,below_up hbW hbw⟩

set_option maxHeartbeats 2000000 in
theorem rowOf_any (SA TA : Option Addr) (c d lo k : Nat) (segs : List (List UInt8)) (atts : List Att) (w : World) (hh : Hist w lo SA TA segs atts) (hok : HistOk segs atts) :
  Calls Tryz.prog 63 #[.agg #[.slice SA segs.length c,.slice TA atts.length d],.int .i64 k] w fun e w' => ∃ A' c',e = .returned (.slice A' (sorted (rowA atts k)).length c') ∧ w'.ownsRow w.heap.size 3 1 (.slice A' (sorted (rowA atts k)).length c') (sorted (rowA atts k)).length (ints (sorted (rowA atts k))) ∧ Below w.heap.size w w':=by
 have m:=hok.m
 have HO:=Lib.hid hok
 have hsl : (sorted (rowA atts k)).length = (rowA atts k).length:=sorted_len _
 have HSL:=Lib.hid hsl
 clear hok hsl
 go_enter Tryz.func63,Tryz.ntmps63
 go_wp2_with fail
 have hb0 : Below w.heap.size w (w.alloc (.cells #[.slice SA segs.length c,.slice TA atts.length d] 29)):=(Below.refl _ _).alloc (Nat.le_refl _) _
 have hk0 : Blk (w.alloc (.cells #[.slice SA segs.length c,.slice TA atts.length d] 29)) w.heap.size 29 #[.slice SA segs.length c,.slice TA atts.length d]:=Blk.new _ _ _
 have hh0:=hh.alloc (.cells #[.slice SA segs.length c,.slice TA atts.length d] 29)
 generalize w.alloc (.cells #[.slice SA segs.length c,.slice TA atts.length d] 29) = W at *
 have hz0:=hk0.lt
 obtain ⟨k0,k1⟩:=hk0.two_
 clear hh
 have hzW:=hb0.size
 go_loopw [5,12] (fun v i wr => ∃ (j : Nat) (A' : Option Addr) (c' : Nat),j ≤ atts.length ∧ i = .int .i64 j ∧ v = .slice A' (rowA (atts.take j) k).length c' ∧ wr.ownsRow W.heap.size 3 1 (.slice A' (rowA (atts.take j) k).length c') (rowA (atts.take j) k).length (ints (rowA (atts.take j) k)) ∧ Below W.heap.size W wr) (fun _ i _ => atts.length - (intOf i).toNat)
 case atStart => exact ⟨0,none,0,Nat.zero_le _,rfl,rfl,World.ownsRow_nil _ _ _ _,Below.refl _ _⟩
 case round =>
  obtain ⟨j,A',c',hj,rfl,rfl,hown,hbw⟩:=hrel
  have hz:=hbw.size
  by_cases hlt : j < atts.length
  ·obtain ⟨b,off,B,cB,rfl,hbs,c0,c1',hrB⟩:=(hh0.below hbw).att hlt
   have HSP:=Lib.hid (HO.out.spl j hlt)
   have hsl:=HSP.out.len
   have hrl:=rowA_take_len atts j k
   have HRT:=Lib.hid (rowA_take atts j k hlt)
   have hrBa:=hrB.alloc (.cells #[.int .i64 atts[j].1,.slice B atts[j].2.length cB] 81)
   generalize hx9 : atts[j].1 = no at *
   generalize hl9 : atts[j].2 = l at *
   clear hx9 hl9
   generalize rowA (atts.take j) k = o at *
   have hownA:=hown.alloc (.cells #[.int .i64 no,.slice B l.length cB] 81)
   have hba : Below W.heap.size W (wr.alloc (.cells #[.int .i64 no,.slice B l.length cB] 81)):=(by repeat (first | exact hbw | refine Below.alloc ?_ (by first | omega | (simp; omega)) _ | refine below_drewN' ?_ _ | refine Below.drew ?_))
   have n2:=HO.out.n2
   go_wp2_with fail
   refine (lengthsOf_any segs.length B _ _ l _ hrBa (by omega) HSP.out).mono ?_
   rintro e w2 ⟨A2,c2,rfl,hownT,hb2⟩
   have hown2:=own_keep hownA hb2
   have hx2:=below_up hba hb2
   have hz2:=hx2.size
   have hrT:=Row.of_own hownT
   have hTL : (tmL l l.length).length = l.length:=tmL_len _ _
   clear hownT hb2 hba hownA hown hbw hrBa hrB
   by_cases hkl : k < l.length
   ·obtain ⟨bT,oT,rfl,_,hbT,cj⟩:=hrT.int_at (k:=k) (by rw [hTL]; exact hkl)
    rw [tmL_at] at cj
    rw [hTL]
    have d0 : decide ((k : Int) < (l.length : Int)) = true:=by simp; omega
    have d0' : decide (k < l.length) = true:=by simpa using hkl
    clear hrT
    by_cases ht : 0 < tmA l k
    ·have HF : Hid (rowA (atts.take (j + 1)) k = o ++ [tmA l k]):=Lib.hid (by rw [HRT.out,if_pos ⟨hkl,ht⟩])
     have d1 : decide (0 < tmA l k) = true:=by simpa using ht
     generalize tmA l k = x at *
     clear HRT ht
     go_wp2_with (at_builtin; go_must (refine wpList_app (lo:=W.heap.size) (base:=W.heap.size) (n:=o.length) (xs:=ints o) _ _ rfl _ _ ty_ints rfl (by repeat (first | exact hown2 | refine World.ownsRow.alloc ?_ _ | refine own_drewN ?_ _ | refine World.ownsRow.drew ?_)) rfl (by first | exact row_new' _ (by first | rfl | simp) (by first | omega | (simp; omega)) rfl | exact row_newN _ _ (by first | rfl | simp) (by first | omega | (simp; omega)) rfl | exact row_newD _ (by first | rfl | simp) (by first | omega | (simp; omega)) rfl) rfl rfl (by first | omega | decide) (by first | omega | decide) (by first | omega | (simp; omega)) ?_))
     intro A5 c5 w5 hown5 hg5 _
     have hb5 : Below W.heap.size W w5:=below_app hown2 (by repeat (first | exact hx2 | refine Below.alloc ?_ (by first | omega | (simp; omega)) _ | refine below_drewN' ?_ _ | refine Below.drew ?_)) hg5 (Nat.le_refl _) (by simp; omega)
     go_wp2_with fail
     go_roundw
     case rel => exact ⟨j + 1,A5,c5,by omega,by go_num,by rw [HF.out]; simp,by rw [HF.out,ints_app,List.length_append]; exact hown5,hb5⟩
     case measure => simp [intOf]; omega
    ·have HF : Hid (rowA (atts.take (j + 1)) k = o):=Lib.hid (by rw [HRT.out,if_neg (fun h => ht h.2),List.append_nil])
     have d1 : decide (0 < tmA l k) = false:=by simpa using ht
     generalize tmA l k = x at *
     clear HRT ht
     go_wp2_with fail
     go_roundw
     case rel => exact ⟨j + 1,A',c',by omega,by go_num,by rw [HF.out],by rw [HF.out]; exact hown2,hx2⟩
     case measure => simp [intOf]; omega
   ·have HF : Hid (rowA (atts.take (j + 1)) k = o):=Lib.hid (by rw [HRT.out,if_neg (fun h => hkl h.1),List.append_nil])
    have d0 : decide ((k : Int) < (l.length : Int)) = false:=by simp; omega
    have d0' : decide (k < l.length) = false:=by simpa using hkl
    rw [hTL]
    clear HRT hkl
    go_wp2_with fail
    go_roundw
    case rel => exact ⟨j + 1,A',c',by omega,by go_num,by rw [HF.out],by rw [HF.out]; exact hown2,hx2⟩
    case measure => simp [intOf]; omega
  ·have hkn : atts.take j = atts:=List.take_of_length_le (by omega)
   rw [hkn] at hown ⊢
   have hrl:=rowA_len atts k
   clear hkn
   go_wp2_with fail
   refine (sortI_any _ _ _ (rowA atts k) _ hown (by omega)).mono ?_
   rintro e w5 ⟨rfl,ho5,hg5⟩
   have hb5 : Below w.heap.size w w5:=(below_up hb0 hbw).grown hg5 (by omega) (fun k hk => by have:=(hown.lt k hk).1; omega)
   go_wp2_with fail
   go_ret
   exact ⟨A',c',by rw [HSL.out]; rfl,by rw [HSL.out]; exact own_weak ho5 hzW,hb5⟩

set_option maxHeartbeats 2000000 in
theorem goldsOf_any (SA TA : Option Addr) (c d lo : Nat) (segs : List (List UInt8)) (atts : List Att) (w : World) (hh : Hist w lo SA TA segs atts) (hok : HistOk segs atts) :
  Calls Tryz.prog 58 #[.agg #[.slice SA segs.length c,.slice TA atts.length d]] w fun e w' => ∃ A' c',e = .returned (.slice A' (goldL atts segs.length).length c') ∧ w'.ownsRow w.heap.size 3 1 (.slice A' (goldL atts segs.length).length c') (goldL atts segs.length).length (ints (goldL atts segs.length)) ∧ Below w.heap.size w w':=by
 have m:=hok.m
 have n2:=hok.n2
 have HO:=Lib.hid hok
 clear hok
 go_enter Tryz.func58,Tryz.ntmps58
 go_wp2_with fail
 have hb0 : Below w.heap.size w (w.alloc (.cells #[.slice SA segs.length c,.slice TA atts.length d] 29)):=(Below.refl _ _).alloc (Nat.le_refl _) _
 have hk0 : Blk (w.alloc (.cells #[.slice SA segs.length c,.slice TA atts.length d] 29)) w.heap.size 29 #[.slice SA segs.length c,.slice TA atts.length d]:=Blk.new _ _ _
 have hh0:=hh.alloc (.cells #[.slice SA segs.length c,.slice TA atts.length d] 29)
 generalize w.alloc (.cells #[.slice SA segs.length c,.slice TA atts.length d] 29) = W at *
 have hz0:=hk0.lt
 obtain ⟨k0,k1⟩:=hk0.two_
 clear hh
 have hzW:=hb0.size
 go_loopw [3,10] (fun v i wr => ∃ (k : Nat) (A' : Option Addr) (c' : Nat),k ≤ segs.length ∧ i = .int .i64 k ∧ v = .slice A' (goldL atts k).length c' ∧ wr.ownsRow W.heap.size 3 1 (.slice A' (goldL atts k).length c') (goldL atts k).length (ints (goldL atts k)) ∧ Below W.heap.size W wr) (fun _ i _ => segs.length - (intOf i).toNat)
 case atStart => exact ⟨0,none,0,Nat.zero_le _,rfl,rfl,World.ownsRow_nil _ _ _ _,Below.refl _ _⟩
 case round =>
  obtain ⟨k,A',c',hk,rfl,rfl,hown,hbw⟩:=hrel
  have hz:=hbw.size
  by_cases hlt : k < segs.length
  ·have hkw:=hk0.below hbw
   have hhw:=hh0.below hbw
   have hzw:=hkw.lt
   obtain ⟨q0,q1⟩:=hkw.two_
   have hgs:=goldL_snoc atts k
   have hlk : (goldL atts k).length ≤ 1000:=by rw [goldL_len]; omega
   have HGN:=Lib.hid (goldA_none (atts:=atts) (k:=k))
   have HGS:=Lib.hid (goldA_some (atts:=atts) (k:=k))
   have HS:=Lib.hid hgs
   clear hgs
   generalize goldL atts k = o at *
   go_wp2_with fail
   refine (rowOf_any SA TA c d lo k segs atts _ hhw HO.out).mono ?_
   rintro e w2 ⟨A2,c2,rfl,hownT,hb2⟩
   have hown2:=own_keep hown hb2
   have hx2:=below_up hbw hb2
   have hz2:=hx2.size
   have hrT:=Row.of_own hownT
   clear hownT hb2 hown hbw
   generalize sorted (rowA atts k) = row at *
   by_cases h0 : 0 < row.length
   ·have HG:=Lib.hid (HGS.out h0)
    obtain ⟨b,off,rfl,_,hbs,cr⟩:=hrT.int_at (k:=0) h0
    rw [Nat.add_zero] at cr
    generalize row[0] = x at *
    have d1 : decide (0 < row.length) = true:=by simpa using h0
    have HF : Hid (goldL atts (k + 1) = o ++ [x]):=Lib.hid (by rw [HS.out,HG.out])
    clear HGS HGN HG HS hrT
    go_wp2_with (at_builtin; go_must (refine wpList_app (lo:=W.heap.size) (base:=W.heap.size) (n:=o.length) (xs:=ints o) _ _ rfl _ _ ty_ints rfl (by repeat (first | exact hown2 | refine World.ownsRow.alloc ?_ _ | refine own_drewN ?_ _ | refine World.ownsRow.drew ?_)) rfl (by first | exact row_new' _ (by first | rfl | simp) (by first | omega | (simp; omega)) rfl | exact row_newN _ _ (by first | rfl | simp) (by first | omega | (simp; omega)) rfl | exact row_newD _ (by first | rfl | simp) (by first | omega | (simp; omega)) rfl) rfl rfl (by first | omega | decide) (by first | omega | decide) (by first | omega | (simp; omega)) ?_))
    intro A5 c5 w5 hown5 hg5 _
    go_wp2_with fail
    go_roundw
    case rel => exact ⟨k + 1,A5,c5,by omega,by go_num,by rw [HF.out]; simp,by rw [HF.out,ints_app,List.length_append]; exact hown5,below_app hown2 (by repeat (first | exact hx2 | refine Below.alloc ?_ (by first | omega | (simp; omega)) _ | refine below_drewN' ?_ _ | refine Below.drew ?_)) hg5 (Nat.le_refl _) (by simp; omega)⟩
    case measure => simp [intOf]; omega
   ·have HG:=Lib.hid (HGN.out (by omega))
    have d1 : decide (0 < row.length) = false:=by simpa using h0
    have HF : Hid (goldL atts (k + 1) = o ++ [0]):=Lib.hid (by rw [HS.out,HG.out])
    clear HGS HGN HG HS hrT
    go_wp2_with (at_builtin; go_must (refine wpList_app (lo:=W.heap.size) (base:=W.heap.size) (n:=o.length) (xs:=ints o) _ _ rfl _ _ ty_ints rfl (by repeat (first | exact hown2 | refine World.ownsRow.alloc ?_ _ | refine own_drewN ?_ _ | refine World.ownsRow.drew ?_)) rfl (by first | exact row_new' _ (by first | rfl | simp) (by first | omega | (simp; omega)) rfl | exact row_newN _ _ (by first | rfl | simp) (by first | omega | (simp; omega)) rfl | exact row_newD _ (by first | rfl | simp) (by first | omega | (simp; omega)) rfl) rfl rfl (by first | omega | decide) (by first | omega | decide) (by first | omega | (simp; omega)) ?_))
    intro A5 c5 w5 hown5 hg5 _
    go_wp2_with fail
    go_roundw
    case rel => exact ⟨k + 1,A5,c5,by omega,by go_num,by rw [HF.out]; simp,by rw [HF.out,ints_app,List.length_append]; exact hown5,below_app hown2 (by repeat (first | exact hx2 | refine Below.alloc ?_ (by first | omega | (simp; omega)) _ | refine below_drewN' ?_ _ | refine Below.drew ?_)) hg5 (Nat.le_refl _) (by simp; omega)⟩
    case measure => simp [intOf]; omega
  ·have hkn : k = segs.length:=by omega
   subst hkn
   go_wp2_with fail
   go_ret
   exact ⟨A',c',rfl,own_weak hown hzW,below_up hb0 hbw⟩
end Go.Proofs.YtapjahbflhingaaGreatDoor
