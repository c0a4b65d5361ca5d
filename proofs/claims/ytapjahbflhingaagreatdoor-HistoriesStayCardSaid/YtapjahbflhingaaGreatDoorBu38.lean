/- Texts of this seat, laid together: Hd. -/
import Derived.Test.YtapjahbflhingaaGreatDoorBu36
import Derived.Test.YtapjahbflhingaaGreatDoorBu03
import Derived.Test.YtapjahbflhingaaGreatDoorBu37
import Derived.Test.YtapjahbflhingaaGreatDoorBu19
/- The walks of segment.rows and golds, splitref1.RowOf and GoldsOf at a right history. -/
namespace Go.Proofs.YtapjahbflhingaaGreatDoor
set_option linter.unusedVariables false
set_option linter.unusedSimpArgs false
open Go.RowKit

def rowsL (atts : List Att) (n : Nat) : List (List Int):=(List.range n).map (rowA atts)
def rowsP (atts : List Att) (l : List Int) (j n : Nat) : List (List Int):=(List.range n).map (rowP atts l j)
def rowsS (atts : List Att) (j n : Nat) : List (List Int):=(List.range n).map fun k => if k < j then sorted (rowA atts k) else rowA atts k
theorem rowsP_len (atts : List Att) (l : List Int) (j n : Nat) : (rowsP atts l j n).length = n:=by simp [rowsP]
theorem rowsS_len (atts : List Att) (j n : Nat) : (rowsS atts j n).length = n:=by simp [rowsS]
theorem rowsL_nil (n : Nat) : rowsL [] n = List.replicate n []:=by
 apply List.ext_getElem
 ·simp [rowsL]
 ·intro i h1 h2; simp [rowsL,rowA]
theorem rowsP_zero (atts : List Att) (l : List Int) (n : Nat) : rowsP atts l 0 n = rowsL atts n:=by
 unfold rowsP rowsL
 refine List.map_congr_left fun k _ => ?_
 unfold rowP
 rw [if_neg (fun h => Nat.not_lt_zero _ h.1),List.append_nil]
theorem rowsP_get (atts : List Att) (l : List Int) (j n k : Nat) (h : k < (rowsP atts l j n).length) : (rowsP atts l j n)[k] = rowP atts l j k:=by simp [rowsP]
theorem rowsP_at (atts : List Att) (l : List Int) (j n : Nat) (h : j < (rowsP atts l j n).length) : (rowsP atts l j n)[j] = rowA atts j:=by
 rw [rowsP_get]
 unfold rowP
 rw [if_neg (fun h => Nat.lt_irrefl _ h.1),List.append_nil]
theorem rowsP_keep {atts : List Att} {l : List Int} {j n : Nat} (h : ¬ 0 < tmA l j) : rowsP atts l (j + 1) n = rowsP atts l j n:=by
 unfold rowsP
 refine List.map_congr_left fun k _ => ?_
 unfold rowP
 by_cases hk : k = j
 ·subst hk
  rw [if_neg (fun h2 => h h2.2.2),if_neg (fun h2 => h h2.2.2)]
 ·by_cases h1 : k < j ∧ k < l.length ∧ 0 < tmA l k
  ·rw [if_pos h1,if_pos ⟨by omega,h1.2⟩]
  ·rw [if_neg h1,if_neg (fun h2 => h1 ⟨by omega,h2.2⟩)]
theorem rowsP_push {atts : List Att} {l : List Int} {j n : Nat} (hj : j < l.length) (hn : j < n) (h : 0 < tmA l j) : rowsP atts l (j + 1) n = (rowsP atts l j n).set j (rowA atts j ++ [tmA l j]):=by
 apply List.ext_getElem
 ·simp [rowsP]
 ·intro k h1 h2
  have hk : k < n:=by simpa [rowsP] using h1
  rw [List.getElem_set,rowsP_get,rowsP_get]
  unfold rowP
  by_cases e : j = k
  ·subst e
   rw [if_pos ⟨Nat.lt_succ_self _,hj,h⟩,if_pos rfl]
  ·rw [if_neg e]
   by_cases h3 : k < j ∧ k < l.length ∧ 0 < tmA l k
   ·rw [if_pos h3,if_pos ⟨by omega,h3.2⟩]
   ·rw [if_neg h3,if_neg (fun h4 => h3 ⟨by omega,h4.2⟩)]
theorem rowsP_end {atts : List Att} {i n : Nat} (hi : i < atts.length) : rowsP (atts.take i) atts[i].2 atts[i].2.length n = rowsL (atts.take (i + 1)) n:=by
 unfold rowsP rowsL
 refine List.map_congr_left fun k _ => ?_
 unfold rowP
 rw [rowA_take _ _ _ hi]
 by_cases h : k < atts[i].2.length ∧ 0 < tmA atts[i].2 k
 ·rw [if_pos h,if_pos ⟨h.1,h⟩]
 ·rw [if_neg h,if_neg (fun h2 => h h2.2)]
theorem rowsS_zero (atts : List Att) (n : Nat) : rowsS atts 0 n = rowsL atts n:=by
 unfold rowsS rowsL
 refine List.map_congr_left fun k _ => ?_
 rw [if_neg (Nat.not_lt_zero _)]
theorem rowsS_at (atts : List Att) (j n i : Nat) (h : i < (rowsS atts j n).length) : (rowsS atts j n)[i] = if i < j then sorted (rowA atts i) else rowA atts i:=by simp [rowsS]
theorem rowsS_next {atts : List Att} {j n : Nat} (hn : j < n) : rowsS atts (j + 1) n = (rowsS atts j n).set j (sorted (rowA atts j)):=by
 apply List.ext_getElem
 ·simp [rowsS]
 ·intro k h1 h2
  rw [List.getElem_set,rowsS_at,rowsS_at]
  by_cases e : j = k
  ·subst e; simp
  ·rw [if_neg e]
   by_cases h3 : k < j
   ·rw [if_pos h3,if_pos (by omega)]
   ·rw [if_neg h3,if_neg (by omega)]
theorem rowA_take_len (atts : List Att) (i k : Nat) : (rowA (atts.take i) k).length ≤ atts.length:=Nat.le_trans (rowA_len _ _) (by simp; omega)
theorem info_ints : (Tryz.prog.info? 22).map (fun i => (i.zero,i.size,i.bytes)) = some (some (.slice none 0 0),1,24):=by kernel_rfl
theorem und_intss : Tryz.prog.underlying 98 = some (.slice 22):=Tryz.underlying98

set_option maxHeartbeats 4000000 in
set_option maxRecDepth 100000 in
theorem rows_any (p : Nat) (SA TA : Option Addr) (c d lo : Nat) (segs : List (List UInt8)) (atts : List Att) (w : World) (hp : Blk w p 29 #[.slice SA segs.length c,.slice TA atts.length d]) (hh : Hist w lo SA TA segs atts) (hok : HistOk segs atts) :
  Calls Tryz.prog 52 #[.pointer (some ⟨p,0,none⟩)] w fun e w' => ∃ g c',e = .returned (.slice (some ⟨g,0,none⟩) segs.length c') ∧ w.heap.size ≤ g ∧ Nest 3 22 w' w.heap.size g (rowsS atts segs.length segs.length) ∧ Below w.heap.size w w':=by
 have n1:=hok.n1
 have n2:=hok.n2
 have m:=hok.m
 have HO:=Lib.hid hok
 clear hok
 obtain ⟨k0,k1⟩:=hp.two_
 have hzp:=hp.lt
 obtain ⟨i0,hi0,hz0,hz1,hz2⟩:=info_parts info_ints
 have und:=und_intss
 go_enter Tryz.func52,Tryz.ntmps52
 go_wp2_with (at_make; go_must (refine wpList_make_full _ rfl _ _ 98 rfl w.heap.size 22 i0 _ 1 und hi0 hz0 hz1 .i64 .i64 _ _ segs.length rfl rfl rfl rfl (by rw [hz2]; omega) (by simp only [maxLen]; omega) (Nat.le_refl _) ?_))
 intro w1 hown1 hg1
 have hb1 : Below w.heap.size w w1:=(Below.refl _ _).grown hg1 (Nat.le_refl _) (fun k hk => by cases hk)
 obtain ⟨g,cs,eg,hg,hblk,hcs,hsz⟩:=own_blkS hown1 (by omega)
 have eg' : w.heap.size = g:=congrArg Addr.block (Option.some.inj eg)
 have hN1 : Nest 3 22 w1 w.heap.size g (rowsL (atts.take 0) segs.length):=by
  have e0 : rowsL (atts.take 0) segs.length = List.replicate segs.length []:=by rw [List.take_zero,rowsL_nil]
  rw [e0]
  refine Nest.made (by decide) hblk (fun i hi => ?_)
  rw [hcs i hi]
  have e1 : (madeCells (Value.slice none 0 0).cells (segs.length * 1)).toList = List.replicate segs.length (Value.slice none 0 0):=by
   have e2 : (Value.slice none 0 0).cells = #[.slice none 0 0]:=rfl
   rw [e2,toList_madeCells_one,Nat.mul_one]
  first
   | (rw [e1]; simp [hi])
   | (rw [toList_madeCells_one]; simp [hi])
 subst eg'
 clear hg1 hown1 eg hblk hcs hsz cs
 have hpx:=hp.below hb1
 have hhx:=hh.below hb1
 obtain ⟨q0,q1⟩:=hpx.two_
 have hpl:=hpx.lt
 go_wp2_with fail
 go_loopw [21] (fun i wr => ∃ k : Nat,k ≤ atts.length ∧ i = .int .i64 k ∧ Nest 3 22 wr w.heap.size w.heap.size (rowsL (atts.take k) segs.length) ∧ Below w.heap.size w wr) (fun i _ => atts.length - (intOf i).toNat)
 case atStart => exact ⟨0,Nat.zero_le _,rfl,hN1,hb1⟩
 case round =>
  clear hN1 hpx hhx q0 q1 hpl hb1
  obtain ⟨k,hk,rfl,hN,hbw⟩:=hrel
  have hz:=hbw.size
  by_cases hlt : k < atts.length
  ·obtain ⟨b,off,B,cB,rfl,hbs,c0,c1',hrB⟩:=(hh.below hbw).att hlt
   have HSP:=Lib.hid (HO.out.spl k hlt)
   have hsl:=HSP.out.len
   have HRE:=Lib.hid (rowsP_end (n:=segs.length) hlt)
   have HRZ:=Lib.hid (rowsP_zero (atts.take k) atts[k].2 segs.length)
   have HRL:=Lib.hid (fun j => rowA_take_len atts k j)
   have hrBa:=hrB.alloc (.cells #[.int .i64 atts[k].1,.slice B atts[k].2.length cB] 81)
   generalize hx9 : atts[k].1 = no at *
   generalize hl9 : atts[k].2 = l at *
   clear hx9 hl9
   have hNa:=hN.alloc (.cells #[.int .i64 no,.slice B l.length cB] 81)
   have hba : Below w.heap.size w (wr.alloc (.cells #[.int .i64 no,.slice B l.length cB] 81)):=(by repeat (first | exact hbw | refine Below.alloc ?_ (by first | omega | (simp; omega)) _ | refine below_drewN' ?_ _ | refine Below.drew ?_))
   go_wp2_with fail
   refine (htimes_any segs.length B _ _ l _ hrBa (by omega) HSP.out).mono ?_
   rintro e w2 ⟨A',c',rfl,hownT,hb2⟩
   have hNT:=NestT.begin hNa hb2 hownT hba.size
   have hx2:=below_up hba hb2
   have hTL : (tmL l l.length).length = l.length:=tmL_len _ _
   clear hownT hb2 hba hNa hN hbw hrBa hrB
   rw [← HRZ.out] at hNT
   rw [hTL] at hNT ⊢
   go_wp2_with fail
   go_loopw [29] (fun i wr => ∃ j : Nat,j ≤ l.length ∧ i = .int .i64 j ∧ NestT 3 22 wr w.heap.size w.heap.size (rowsP (atts.take k) l j segs.length) (.slice A' l.length c') l.length (ints (tmL l l.length)) ∧ Below w.heap.size w wr) (fun i _ => l.length - (intOf i).toNat)
   case atStart => exact ⟨0,Nat.zero_le _,rfl,hNT,hx2⟩
   case round =>
    clear hNT hx2
    obtain ⟨j,hj,rfl,hNT,hbw⟩:=hrel
    have hzz:=hbw.size
    by_cases hjl : j < l.length
    ·have hrT:=Row.of_own hNT.own
     have hrT' : Row wr w.heap.size 1 A' (tmL l l.length).length (ints (tmL l l.length)):=by rw [hTL]; exact hrT
     obtain ⟨bT,oT,rfl,_,hbT,cj⟩:=hrT'.int_at (k:=j) (by rw [hTL]; exact hjl)
     rw [tmL_at] at cj
     have bd:=tmA_bd HSP.out j
     have HKE:=Lib.hid (rowsP_keep (atts:=atts.take k) (l:=l) (j:=j) (n:=segs.length))
     have HPU:=Lib.hid (rowsP_push (atts:=atts.take k) (n:=segs.length) hjl (by omega))
     have hPL : j < (rowsP (atts.take k) l j segs.length).length:=by rw [rowsP_len]; omega
     have HAT:=Lib.hid (rowsP_at (atts.take k) l j segs.length hPL)
     have hrl:=HRL.out j
     clear hrT hrT'
     by_cases ht : 0 < tmA l j
     ·have HF:=Lib.hid (HPU.out ht)
      obtain ⟨A1,c1,cg,ho1⟩:=hNT.nest.row hPL
      rw [HAT.out] at cg ho1
      have hgl:=hNT.nest.lt
      have hNa:=hNT.alloc (.cells #[.int .i64 (tmA l j)] 3)
      have d1 : decide (0 < tmA l j) = true:=by simpa using ht
      generalize tmA l j = x at *
      clear ht HKE HPU
      have hjs : j < segs.length:=by omega
      generalize hR : rowA (atts.take k) j = row at *
      go_wp2_with (at_builtin; go_must (refine wpList_app (lo:=w.heap.size) (base:=w.heap.size) (n:=row.length) (xs:=ints row) _ _ rfl _ _ ty_ints rfl (by repeat (first | exact ho1 | refine World.ownsRow.alloc ?_ _ | refine own_drewN ?_ _ | refine World.ownsRow.drew ?_)) rfl (by first | exact row_new' _ (by first | rfl | simp) (by first | omega | (simp; omega)) rfl | exact row_newN _ _ (by first | rfl | simp) (by first | omega | (simp; omega)) rfl | exact row_newD _ (by first | rfl | simp) (by first | omega | (simp; omega)) rfl) rfl rfl (by first | omega | decide) (by first | omega | decide) (by first | omega | (simp; omega)) ?_))
      intro A5 c5 w5 hown5 hg5 hob5
      have hb5 : Below w.heap.size w w5:=below_app ho1 (by repeat (first | exact hbw | refine Below.alloc ?_ (by first | omega | (simp; omega)) _ | refine below_drewN' ?_ _ | refine Below.drew ?_)) hg5 (Nat.le_refl _) (by simp; omega)
      have cga : (wr.alloc (.cells #[.int .i64 x] 3)).cell? ⟨w.heap.size,j,none⟩ = some (.slice A1 row.length c1):=cell_al cg _
      have HQ : Hid ((rowsP (atts.take k) l j segs.length)[j] = row):=HAT
      have e9 : ints (row ++ [x]) = ints row ++ [.int .i64 x]:=by simp [ints]
      have ho9 : w5.ownsRow w.heap.size 3 1 (.slice A5 (row ++ [x]).length c5) (row ++ [x]).length (ints (row ++ [x])):=by
       rw [e9,List.length_append]; exact hown5
      have hpush:=hNa.push (xs:=row ++ [x]) (A':=A5) (c':=c5) hPL (by rw [HQ.out]; exact cga) (by rw [HQ.out]; exact hg5) ho9 (by rw [HQ.out,List.length_append,World.size_alloc]; exact hob5)
      clear ho9 e9
      obtain ⟨⟨cs5,hb5k⟩,hc5⟩:=hNa.nest.grown_ (A:=A1) (c:=c1) hPL (by rw [HQ.out]; exact cga) (by rw [HQ.out]; exact hg5)
      have cg5:=(hc5 j).trans cga
      have fg5:=hb5k.thaw j
      clear hc5
      go_wp2_with fail
      go_roundw
      case rel => exact ⟨j + 1,by omega,by go_num,by rw [HF.out]; first | exact hpush | simpa using hpush,Below.setCell hb5 (by omega) _⟩
      case measure => simp [intOf]; omega
     ·have HF:=Lib.hid (HKE.out ht)
      have d1 : decide (0 < tmA l j) = false:=by simpa using ht
      generalize tmA l j = x at *
      clear ht HKE HPU
      go_wp2_with fail
      go_roundw
      case rel => exact ⟨j + 1,by omega,by go_num,by rw [HF.out]; exact hNT,hbw⟩
      case measure => simp [intOf]; omega
    ·have hjn : j = l.length:=by omega
     have hN9:=hNT.nest
     rw [hjn,HRE.out] at hN9
     clear hNT hjn
     go_wp2_with fail
     go_roundw
     case rel => exact ⟨k + 1,by omega,by go_num,hN9,hbw⟩
     case measure => simp [intOf]; omega
  ·have hkn : atts.take k = atts:=List.take_of_length_le (by omega)
   rw [hkn,← rowsS_zero] at hN
   obtain ⟨W,hW⟩ : ∃ W,W = wr:=⟨_,rfl⟩
   subst hW
   clear hkn
   go_wp2_with fail
   go_loopw [50] (fun i wr => ∃ j : Nat,j ≤ segs.length ∧ i = .int .i64 j ∧ Nest 3 22 wr w.heap.size w.heap.size (rowsS atts j segs.length) ∧ Below w.heap.size w wr) (fun i _ => segs.length - (intOf i).toNat)
   case atStart => exact ⟨0,Nat.zero_le _,rfl,hN,hbw⟩
   case round =>
    clear hN hbw hz
    obtain ⟨j,hj,rfl,hN,hbw⟩:=hrel
    have hzz:=hbw.size
    have hgl:=hN.lt
    by_cases hjl : j < segs.length
    ·have hPL : j < (rowsS atts j segs.length).length:=by rw [rowsS_len]; omega
     have hat : (rowsS atts j segs.length)[j] = rowA atts j:=by rw [rowsS_at,if_neg (Nat.lt_irrefl _)]
     have HF:=Lib.hid (rowsS_next (atts:=atts) hjl)
     have hrl:=rowA_len atts j
     obtain ⟨A1,c1,cg,ho1⟩:=hN.row hPL
     have HT:=Lib.hid (fun (w' : World) hg ho => hN.turn (w':=w') (xs:=sorted (rowA atts j)) hPL cg (by rw [hat,sorted_len]) hg ho)
     rw [hat] at cg ho1 HT
     clear hat
     generalize rowA atts j = row at *
     go_wp2_with fail
     refine (sortI_any _ _ _ row _ ho1 (by omega)).mono ?_
     rintro e w5 ⟨rfl,ho5,hg5⟩
     have hN5:=HT.out w5 hg5 ho5
     have hb5 : Below w.heap.size w w5:=hbw.grown hg5 hbw.size (fun k hk => (ho1.lt k hk).1)
     go_wp2_with fail
     go_roundw
     case rel => exact ⟨j + 1,by omega,by go_num,by rw [HF.out]; exact hN5,hb5⟩
     case measure => simp [intOf]; omega
    ·have hjn : j = segs.length:=by omega
     rw [hjn] at hN
     go_wp2_with fail
     go_ret
     exact ⟨w.heap.size,segs.length,rfl,Nat.le_refl _,hN,hbw⟩
end Go.Proofs.YtapjahbflhingaaGreatDoor
