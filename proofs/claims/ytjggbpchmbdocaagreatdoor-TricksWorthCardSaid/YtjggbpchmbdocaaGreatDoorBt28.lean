/- Texts of this seat, laid together: MqT MqU MqV MqW MqX MpA. -/
import Derived.Test.YtjggbpchmbdocaaGreatDoorBt27
import Derived.Test.YtjggbpchmbdocaaGreatDoorBt24
import Derived.Test.YtjggbpchmbdocaaGreatDoorBt04
import Derived.Test.YtjggbpchmbdocaaGreatDoorBt21
import Derived.Test.YtjggbpchmbdocaaGreatDoorBt02
import Derived.Test.YtjggbpchmbdocaaGreatDoorBt14
/- The walks of once, things, tricks, ThingsOf and TricksOf. -/
set_option linter.unusedVariables false
set_option linter.unusedSimpArgs false
namespace Go.Proofs.YtjggbpchmbdocaaGreatDoor
open Go.RowKit

theorem onceT_eq (l : List (List UInt8)) : onceT l = Lib.compact (sortT l):=rfl
theorem onceT_le (l : List (List UInt8)) : (onceT l).length ≤ l.length:=by rw [onceT_eq]; exact Nat.le_trans (compact_le _) (by rw [sortT_len]; exact Nat.le_refl _)
set_option maxHeartbeats 1000000 in
theorem onceR_any (A : Option Addr) (c lo : Nat) (l : List (List UInt8)) (w : World) (hr : Row w lo 1 A l.length (strs l)) (hl : l.length ≤ 1000000000) :
  Calls Tryz.prog 92 #[.slice A l.length c] w fun e w' => ∃ A' c',e = .returned (.slice A' (onceT l).length c') ∧ w'.ownsRow w.heap.size 9 1 (.slice A' (onceT l).length c') (onceT l).length (strs (onceT l)) ∧ Below w.heap.size w w':=by
 have HS:=Lib.hid (sortT_len l);have HO:=Lib.hid (onceT_eq l)
 go_enter Tryz.func92,Tryz.ntmps92
 go_wp2_with fail;refine (cloneS_any A c lo l _ hr hl).mono ?_;rintro e w1 ⟨A1,c1,rfl,ho1,hb1⟩;have hz1:=hb1.size;go_wp2_with fail;refine (sortT_any A1 c1 w.heap.size l _ ho1 hl).mono ?_;rintro e w2 ⟨rfl,ho2,hg2⟩;have hb2 : Below w.heap.size w w2:=hb1.grown hg2 hz1 (fun k hk => (ho1.lt k hk).1);have hz2:=hb2.size;go_wp2_with fail
 have ho2' : w2.ownsRow w.heap.size 9 1 (.slice A1 (sortT l).length c1) (sortT l).length (strs (sortT l)):=by rw [HS.out]; exact ho2
 have hcm:=compactT_any A1 c1 w.heap.size (sortT l) _ ho2' (by rw [HS.out]; exact hl);rw [HS.out,← HO.out] at hcm;refine hcm.mono ?_;rintro e w3 ⟨rfl,ho3,hg3⟩;have hb3 : Below w.heap.size w w3:=hb2.grown hg3 hz2 (fun k hk => (ho2.lt k hk).1);have HO3:=Lib.hid ho3;clear ho1 ho2 ho2' ho3 hg2 hg3 hb1 hb2;go_wp2_with fail;go_ret;exact ⟨A1,c1,rfl,HO3.out,hb3⟩
theorem flat_take {α β : Type} (f : α → List β) (l : List α) {k : Nat} (hk : k < l.length) : (l.take (k + 1)).flatMap f = (l.take k).flatMap f ++ f l[k]:=by
 rw [List.take_succ_eq_append_getElem hk,List.flatMap_append]; simp
theorem own_down9 {w : World} {base base' : Nat} {e : TypeId} {size : Nat} {v : Value} {n : Nat} {xs : List Value} (h : w.ownsRow base e size v n xs) (hb : base' ≤ base) : w.ownsRow base' e size v n xs :=
 ⟨h.1,h.2.imp id fun ⟨g,cap,cur,h1,h2,h3⟩ => ⟨g,cap,cur,h1,Nat.le_trans hb h2,h3⟩⟩
def dT (d : DoorE) : List (List UInt8):=d.needs ++ d.takes
theorem Blk.keepB {w w' : World} {g B : Nat} {t : TypeId} {cs : Array Value} (h : Blk w g t cs) (hb : Below B w w') (hg : g < B) : Blk w' g t cs:=(hb.block g hg).trans h
set_option maxHeartbeats 4000000 in
set_option maxRecDepth 100000 in
theorem rThings_any (lo ca cd : Nat) (A : Option Addr) (rs : List RoomE) (D : Option Addr) (ds : List DoorE) (st gl : List UInt8) (w : World) (hA : MapW w lo A rs D ds) :
  Calls Tryz.prog 50 #[mapV A rs ca D ds cd st gl] w fun e w' => ∃ A' c',e = .returned (.slice A' (onceT (allT rs ds)).length c') ∧ w'.ownsRow w.heap.size 9 1 (.slice A' (onceT (allT rs ds)).length c') (onceT (allT rs ds)).length (strs (onceT (allT rs ds))) ∧ Below w.heap.size w w':=by
 have hb0 : Below w.heap.size w (w.alloc (.cells #[.slice A rs.length ca,.slice D ds.length cd,encStr st,encStr gl] 29)):=(Below.refl _ w).alloc (Nat.le_refl _) _;have hbl:=Blk.new w 29 #[.slice A rs.length ca,.slice D ds.length cd,encStr st,encStr gl];have hrl:=hA.s.rl;have hdl:=hA.s.dl;have HA:=Lib.hid hA;clear hA;unfold mapV
 go_enter Tryz.func50,Tryz.ntmps50
 go_wp2_with fail;generalize hwb : w.alloc (.cells #[.slice A rs.length ca,.slice D ds.length cd,encStr st,encStr gl] 29) = wb at *
 obtain ⟨B0,hB0⟩ : ∃ B0,B0 = w.heap.size + 1:=⟨_,rfl⟩
 have hB1 : B0 ≤ wb.heap.size:=by rw [hB0,← hwb]; simp
 have HB0 : Hid (w.heap.size < B0):=Lib.hid (by omega);have HBL:=Lib.hid hbl;clear hbl hB0 hwb
 go_loopw [3,11] (fun v i wr => ∃ (k : Nat) (A' : Option Addr) (c' : Nat),k ≤ rs.length ∧ i = .int .i64 k ∧ v = .slice A' ((rs.take k).flatMap RoomE.gives).length c' ∧ wr.ownsRow B0 9 1 (.slice A' ((rs.take k).flatMap RoomE.gives).length c') ((rs.take k).flatMap RoomE.gives).length (strs ((rs.take k).flatMap RoomE.gives)) ∧ ((rs.take k).flatMap RoomE.gives).length ≤ k * 1000 ∧ Below B0 wb wr) (fun _ i _ => rs.length - (intOf i).toNat)
 case atStart => exact ⟨0,none,0,Nat.zero_le _,rfl,rfl,World.ownsRow_nil _ _ _ _,Nat.le_refl _,Below.refl _ _⟩
 case round =>
  obtain ⟨k,A',c',hk,rfl,rfl,hown,hacc,hbw⟩:=hrel;have hsz:=hbw.size;have hbb : Below w.heap.size w wr:=hb0.trans (hbw.mono (Nat.le_of_lt HB0.out))
  by_cases hkn : k < rs.length
  ·obtain ⟨b,off,rfl,hbs,hcell⟩:=(HA.out.below hbb).room (by omega)
   obtain ⟨y0,y1⟩:=hcell k hkn;have hmem:=List.getElem_mem hkn;have hgv:=((HA.out.below hbb).gives _ hmem).1;have hgl:=(HA.out.s.rg _ hmem).1;have HT:=Lib.hid (flat_take RoomE.gives rs hkn);clear hcell hmem;generalize rs[k] = r at *;generalize (rs.take k).flatMap RoomE.gives = acc at *
   have hk1 : k ≤ 1000:=by omega
   have hac2 : acc.length ≤ 1000000:=by
    have : k * 1000 ≤ 1000 * 1000:=Nat.mul_le_mul_right _ hk1;omega
   have hown1:=hown.alloc (.cells #[encStr r.key,.slice r.B r.gives.length r.c] 88);have hgv1:=hgv.alloc (.cells #[encStr r.key,.slice r.B r.gives.length r.c] 88);have hbw1 : Below B0 wb (wr.alloc (.cells #[encStr r.key,.slice r.B r.gives.length r.c] 88)):=hbw.alloc (by omega) _;have hbk:=Blk.new wr 88 #[encStr r.key,.slice r.B r.gives.length r.c];go_upto_region 5 with (fail);generalize wr.alloc (.cells #[encStr r.key,.slice r.B r.gives.length r.c] 88) = wa at *;have hsa:=hbw1.size;have z1:=hbk.cell 1;simp only [Q0,Q2,Q1] at z1;clear hbw hown hgv y0 y1 hbb hbk
   go_wp2_with (at_builtin; go_must (refine wpList_app (base:=B0) (lo:=lo) (n:=acc.length) (xs:=strs acc) _ _ rfl _ _ ty_strs rfl hown1 rfl hgv1 rfl (strs_all _) (by omega) (by omega) (by omega) ?_))
   intro A5 c5 w5 hown5 hg5 _;have hb5 : Below B0 wb w5:=below_app hown1 hbw1 hg5 (Nat.le_refl _) (Nat.le_trans hB1 hsa);rw [show strs acc ++ strs r.gives = strs (acc ++ r.gives) by simp [strs],show acc.length + r.gives.length = (acc ++ r.gives).length by simp] at hown5;rw [show acc.length + r.gives.length = (acc ++ r.gives).length by simp]
   have hl5 : (acc ++ r.gives).length ≤ (k + 1) * 1000:=by rw [List.length_append,Nat.add_mul]; omega
   rw [← HT.out] at hown5 hl5 ⊢;have HO5:=Lib.hid hown5;clear hown5 hg5 hown1 hgv1 z1;go_wp2_with fail;go_roundw
   case rel => exact ⟨k + 1,A5,c5,by omega,by go_num,rfl,HO5.out,hl5,hb5⟩
   case measure => simp [intOf]; omega
  ·have hke : k = rs.length:=by omega
   subst hke;rw [List.take_length] at hown hacc ⊢;have HBB:=Lib.hid hbb;have z1:=(HBL.out.keepB hbw HB0.out).cell 1;simp only [Q0,Q2,Q1] at z1;generalize hac : rs.flatMap RoomE.gives = acc0 at *
   have hac0 : acc0.length ≤ 1000000:=by omega
   clear hacc hbb;go_wp2_with fail;clear z1;have HBW:=Lib.hid hbw
   go_loopw [3,23] (fun v i wr => ∃ (k : Nat) (A' : Option Addr) (c' : Nat),k ≤ ds.length ∧ i = .int .i64 k ∧ v = .slice A' (acc0 ++ (ds.take k).flatMap dT).length c' ∧ wr.ownsRow B0 9 1 (.slice A' (acc0 ++ (ds.take k).flatMap dT).length c') (acc0 ++ (ds.take k).flatMap dT).length (strs (acc0 ++ (ds.take k).flatMap dT)) ∧ (acc0 ++ (ds.take k).flatMap dT).length ≤ 1000000 + k * 2000 ∧ Below B0 wb wr) (fun _ i _ => ds.length - (intOf i).toNat)
   case atStart => exact ⟨0,A',c',Nat.zero_le _,rfl,by simp,by simpa using hown,by simp; omega,hbw⟩
   case round =>
    clear hown hbw hsz;obtain ⟨k,A',c',hk,rfl,rfl,hown,hacc,hbw⟩:=hrel;have hsz:=hbw.size;have hbb : Below w.heap.size w wr:=hb0.trans (hbw.mono (Nat.le_of_lt HB0.out))
    by_cases hkn : k < ds.length
    ·obtain ⟨b,off,rfl,hbs,hcell⟩:=(HA.out.below hbb).door (by omega)
     obtain ⟨y0,y1,y2,y3,y4,y5,y6⟩:=hcell k hkn;have hmem:=List.getElem_mem hkn;have hnd:=((HA.out.below hbb).needs _ hmem).1;have htk:=((HA.out.below hbb).takes _ hmem).1;have hnl:=(HA.out.s.dn _ hmem).1;have htl:=(HA.out.s.dx _ hmem).1;have HTK : Hid (∀ W,Below w.heap.size w W → Row W lo 1 ds[k].T ds[k].takes.length (strs ds[k].takes)):=Lib.hid (fun W hW => ((HA.out.below hW).takes _ hmem).1);have HT : Hid ((acc0 ++ (ds.take k).flatMap dT ++ ds[k].needs) ++ ds[k].takes = acc0 ++ (ds.take (k + 1)).flatMap dT):=Lib.hid (by rw [flat_take dT ds hkn]; simp [dT]);clear hcell hmem;generalize ds[k] = d at *;generalize acc0 ++ (ds.take k).flatMap dT = acc at *
     have hac2 : acc.length ≤ 3000000:=by
      have : k * 2000 ≤ 1000 * 2000:=Nat.mul_le_mul_right _ (by omega);omega
     have hown1:=hown.alloc (.cells #[encStr d.key,encStr d.src,encStr d.dst,.int .i64 d.time,.slice d.N d.needs.length d.nc,.slice d.T d.takes.length d.tc,encStr d.trick] 120);have hnd1:=hnd.alloc (.cells #[encStr d.key,encStr d.src,encStr d.dst,.int .i64 d.time,.slice d.N d.needs.length d.nc,.slice d.T d.takes.length d.tc,encStr d.trick] 120);have htk1:=htk.alloc (.cells #[encStr d.key,encStr d.src,encStr d.dst,.int .i64 d.time,.slice d.N d.needs.length d.nc,.slice d.T d.takes.length d.tc,encStr d.trick] 120);have hbw1 : Below B0 wb (wr.alloc (.cells #[encStr d.key,encStr d.src,encStr d.dst,.int .i64 d.time,.slice d.N d.needs.length d.nc,.slice d.T d.takes.length d.tc,encStr d.trick] 120)):=hbw.alloc (by omega) _;have hbk:=Blk.new wr 120 #[encStr d.key,encStr d.src,encStr d.dst,.int .i64 d.time,.slice d.N d.needs.length d.nc,.slice d.T d.takes.length d.tc,encStr d.trick];have HKB : Hid (∀ q,(Value.slice A' acc.length c').ownBlock = some q → q < wr.heap.size):=Lib.hid (fun q hq => (hown.lt q hq).2);go_upto_region 10 with (fail);generalize wr.alloc (.cells #[encStr d.key,encStr d.src,encStr d.dst,.int .i64 d.time,.slice d.N d.needs.length d.nc,.slice d.T d.takes.length d.tc,encStr d.trick] 120) = wa at *;have hkl:=hbk.lt;generalize wr.heap.size = kb at *;have hsa:=hbw1.size
     obtain ⟨z4,z5⟩ : _ ∧ _:=⟨hbk.cell 4,hbk.cell 5⟩
     simp only [Q0,Q2,Q1] at z4 z5;clear hbw hown hnd htk y0 y1 y2 y3 y4 y5 y6 hbb
     go_wp2_with (at_builtin; go_must (refine wpList_app (base:=B0) (lo:=lo) (n:=acc.length) (xs:=strs acc) _ _ rfl _ _ ty_strs rfl hown1 rfl hnd1 rfl (strs_all _) (by omega) (by omega) (by omega) ?_))
     intro A5 c5 w5 hown5 hg5 _;have hb5 : Below B0 wb w5:=below_app hown1 hbw1 hg5 (Nat.le_refl _) (Nat.le_trans hB1 hsa);have hs5:=hb5.size;have hbk5 : Blk w5 kb 120 _:=(hg5.block kb hbk.lt (fun e => by have:=HKB.out kb e.symm; omega)).trans hbk;rw [show strs acc ++ strs d.needs = strs (acc ++ d.needs) by simp [strs],show acc.length + d.needs.length = (acc ++ d.needs).length by simp] at hown5;rw [show acc.length + d.needs.length = (acc ++ d.needs).length by simp]
     have hl5 : (acc ++ d.needs).length ≤ 3001000:=by rw [List.length_append]; omega
     have hl6 : (acc ++ d.needs).length ≤ 1000000 + k * 2000 + 1000:=by rw [List.length_append]; omega
     clear z4 z5;have z5:=hbk5.cell 5;simp only [Q0,Q2,Q1] at z5;have htk5:=HTK.out w5 (hb0.trans (hb5.mono (Nat.le_of_lt HB0.out)));clear hown1 hnd1 htk1 hg5 hbk hbk5 hbw1 hac2;generalize acc ++ d.needs = acc2 at *
     go_wp2_with (at_builtin; go_must (refine wpList_app (base:=B0) (lo:=lo) (n:=acc2.length) (xs:=strs acc2) _ _ rfl _ _ ty_strs rfl hown5 rfl htk5 rfl (strs_all _) (by omega) (by omega) (by omega) ?_))
     intro A6 c6 w6 hown6 hg6 _;have hb6 : Below B0 wb w6:=below_app hown5 hb5 hg6 (Nat.le_refl _) (Nat.le_trans hB1 hs5);rw [show strs acc2 ++ strs d.takes = strs (acc2 ++ d.takes) by simp [strs],show acc2.length + d.takes.length = (acc2 ++ d.takes).length by simp] at hown6;rw [show acc2.length + d.takes.length = (acc2 ++ d.takes).length by simp]
     have hl7 : (acc2 ++ d.takes).length ≤ 1000000 + (k + 1) * 2000:=by rw [List.length_append,Nat.add_mul]; omega
     rw [HT.out] at hown6 hl7 ⊢;have HO6:=Lib.hid hown6;clear hown6 hg6 hown5 z5 htk5;go_wp2_with fail;go_roundw
     case rel => exact ⟨k + 1,A6,c6,by omega,by go_num,rfl,HO6.out,hl7,hb6⟩
     case measure => simp [intOf]; omega
    ·have hke : k = ds.length:=by omega
     subst hke;rw [List.take_length] at hown hacc ⊢;have HAL : Hid (acc0 ++ ds.flatMap dT = allT rs ds):=Lib.hid (by rw [← hac]; rfl);rw [HAL.out] at hown hacc ⊢
     have hal : (allT rs ds).length ≤ 1000000000:=by omega
     have hor:=onceR_any A' c' B0 (allT rs ds) wr (Row.of_own hown) hal;clear hown hacc hal;go_wp2_with fail;refine hor.mono ?_;rintro e w9 ⟨A9,c9,rfl,ho9,hb9⟩;have HO9:=Lib.hid (own_down9 ho9 hbb.size);clear ho9 hor;go_wp2_with fail;go_ret;exact ⟨A9,c9,rfl,HO9.out,below_up hbb hb9⟩
end Go.Proofs.YtjggbpchmbdocaaGreatDoor
/- The walk of things. -/
namespace Go.Proofs.YtjggbpchmbdocaaGreatDoor
open Go.RowKit

set_option maxHeartbeats 4000000 in
set_option maxRecDepth 100000 in
theorem things_any (lo ca cd g : Nat) (A : Option Addr) (rs : List RoomE) (D : Option Addr) (ds : List DoorE) (w : World) (hA : MapW w lo A rs D ds) (hg0 : w.cell? ⟨g,0,none⟩ = some (.slice A rs.length ca)) (hg1 : w.cell? ⟨g,1,none⟩ = some (.slice D ds.length cd)) :
  Calls Tryz.prog 122 #[.pointer (some ⟨g,0,none⟩)] w fun e w' => ∃ A' c',e = .returned (.slice A' (onceT (allT rs ds)).length c') ∧ w'.ownsRow w.heap.size 9 1 (.slice A' (onceT (allT rs ds)).length c') (onceT (allT rs ds)).length (strs (onceT (allT rs ds))) ∧ Below w.heap.size w w':=by
 have hgl:=World.block_lt_of_cell? w ⟨g,0,none⟩ hg0;simp only at hgl;have hrl:=hA.s.rl;have hdl:=hA.s.dl;have HA:=Lib.hid hA;have HG1:=Lib.hid hg1;have HSL:=Lib.hid (sortT_len (allT rs ds));have HOO:=Lib.hid (onceT_eq (allT rs ds));clear hA
 go_enter Tryz.func122,Tryz.ntmps122
 go_wp2_with fail;clear hg0 hg1
 obtain ⟨wb,hwb⟩ : ∃ wb,wb = w:=⟨_,rfl⟩
 have hb0 : Below w.heap.size w wb:=by rw [hwb]; exact Below.refl _ _
 rw [← hwb]
 obtain ⟨B0,hB0⟩ : ∃ B0,B0 = w.heap.size:=⟨_,rfl⟩
 have hB1 : B0 ≤ wb.heap.size:=by rw [hB0,hwb]; exact Nat.le_refl _
 have HB0 : Hid (w.heap.size ≤ B0):=Lib.hid (by omega);have HGB : Hid (g < B0):=Lib.hid (by omega);have HWB:=Lib.hid hwb;clear hB0 hwb
 go_loopw [3,13] (fun v i wr => ∃ (k : Nat) (A' : Option Addr) (c' : Nat),k ≤ rs.length ∧ i = .int .i64 k ∧ v = .slice A' ((rs.take k).flatMap RoomE.gives).length c' ∧ wr.ownsRow B0 9 1 (.slice A' ((rs.take k).flatMap RoomE.gives).length c') ((rs.take k).flatMap RoomE.gives).length (strs ((rs.take k).flatMap RoomE.gives)) ∧ ((rs.take k).flatMap RoomE.gives).length ≤ k * 1000 ∧ Below B0 wb wr) (fun _ i _ => rs.length - (intOf i).toNat)
 case atStart => exact ⟨0,none,0,Nat.zero_le _,rfl,rfl,World.ownsRow_nil _ _ _ _,Nat.le_refl _,Below.refl _ _⟩
 case round =>
  obtain ⟨k,A',c',hk,rfl,rfl,hown,hacc,hbw⟩:=hrel;have hsz:=hbw.size;have hbb : Below w.heap.size w wr:=hb0.trans (hbw.mono HB0.out)
  by_cases hkn : k < rs.length
  ·obtain ⟨b,off,rfl,hbs,hcell⟩:=(HA.out.below hbb).room (by omega)
   obtain ⟨y0,y1⟩:=hcell k hkn;have hmem:=List.getElem_mem hkn;have hgv:=((HA.out.below hbb).gives _ hmem).1;have hgl:=(HA.out.s.rg _ hmem).1;have HT:=Lib.hid (flat_take RoomE.gives rs hkn);clear hcell hmem;generalize rs[k] = r at *;generalize (rs.take k).flatMap RoomE.gives = acc at *
   have hk1 : k ≤ 1000:=by omega
   have hac2 : acc.length ≤ 1000000:=by
    have : k * 1000 ≤ 1000 * 1000:=Nat.mul_le_mul_right _ hk1;omega
   have hown1:=hown.alloc (.cells #[encStr r.key,.slice r.B r.gives.length r.c] 88);have hgv1:=hgv.alloc (.cells #[encStr r.key,.slice r.B r.gives.length r.c] 88);have hbw1 : Below B0 wb (wr.alloc (.cells #[encStr r.key,.slice r.B r.gives.length r.c] 88)):=hbw.alloc (by omega) _;have hbk:=Blk.new wr 88 #[encStr r.key,.slice r.B r.gives.length r.c];go_upto_region 5 with (fail);generalize wr.alloc (.cells #[encStr r.key,.slice r.B r.gives.length r.c] 88) = wa at *;have hsa:=hbw1.size;have z1:=hbk.cell 1;simp only [Q0,Q2,Q1] at z1;clear hbw hown hgv y0 y1 hbb hbk
   go_wp2_with (at_builtin; go_must (refine wpList_app (base:=B0) (lo:=lo) (n:=acc.length) (xs:=strs acc) _ _ rfl _ _ ty_strs rfl hown1 rfl hgv1 rfl (strs_all _) (by omega) (by omega) (by omega) ?_))
   intro A5 c5 w5 hown5 hg5 _;have hb5 : Below B0 wb w5:=below_app hown1 hbw1 hg5 (Nat.le_refl _) (Nat.le_trans hB1 hsa);rw [show strs acc ++ strs r.gives = strs (acc ++ r.gives) by simp [strs],show acc.length + r.gives.length = (acc ++ r.gives).length by simp] at hown5;rw [show acc.length + r.gives.length = (acc ++ r.gives).length by simp]
   have hl5 : (acc ++ r.gives).length ≤ (k + 1) * 1000:=by rw [List.length_append,Nat.add_mul]; omega
   rw [← HT.out] at hown5 hl5 ⊢;have HO5:=Lib.hid hown5;clear hown5 hg5 hown1 hgv1 z1;go_wp2_with fail;go_roundw
   case rel => exact ⟨k + 1,A5,c5,by omega,by go_num,rfl,HO5.out,hl5,hb5⟩
   case measure => simp [intOf]; omega
  ·have hke : k = rs.length:=by omega
   subst hke;rw [List.take_length] at hown hacc ⊢;have HBB:=Lib.hid hbb;have z1:=(hbb.cell (p:=⟨g,1,none⟩) (by exact hgl)).trans HG1.out;generalize hac : rs.flatMap RoomE.gives = acc0 at *
   have hac0 : acc0.length ≤ 1000000:=by omega
   clear hacc hbb;go_wp2_with fail;clear z1;have HBW:=Lib.hid hbw
   go_loopw [3,27] (fun v i wr => ∃ (k : Nat) (A' : Option Addr) (c' : Nat),k ≤ ds.length ∧ i = .int .i64 k ∧ v = .slice A' (acc0 ++ (ds.take k).flatMap dT).length c' ∧ wr.ownsRow B0 9 1 (.slice A' (acc0 ++ (ds.take k).flatMap dT).length c') (acc0 ++ (ds.take k).flatMap dT).length (strs (acc0 ++ (ds.take k).flatMap dT)) ∧ (acc0 ++ (ds.take k).flatMap dT).length ≤ 1000000 + k * 2000 ∧ Below B0 wb wr) (fun _ i _ => ds.length - (intOf i).toNat)
   case atStart => exact ⟨0,A',c',Nat.zero_le _,rfl,by simp,by simpa using hown,by simp; omega,hbw⟩
   case round =>
    clear hown hbw hsz;obtain ⟨k,A',c',hk,rfl,rfl,hown,hacc,hbw⟩:=hrel;have hsz:=hbw.size;have hbb : Below w.heap.size w wr:=hb0.trans (hbw.mono HB0.out)
    by_cases hkn : k < ds.length
    ·obtain ⟨b,off,rfl,hbs,hcell⟩:=(HA.out.below hbb).door (by omega)
     obtain ⟨y0,y1,y2,y3,y4,y5,y6⟩:=hcell k hkn;have hmem:=List.getElem_mem hkn;have hnd:=((HA.out.below hbb).needs _ hmem).1;have htk:=((HA.out.below hbb).takes _ hmem).1;have hnl:=(HA.out.s.dn _ hmem).1;have htl:=(HA.out.s.dx _ hmem).1;have HTK : Hid (∀ W,Below w.heap.size w W → Row W lo 1 ds[k].T ds[k].takes.length (strs ds[k].takes)):=Lib.hid (fun W hW => ((HA.out.below hW).takes _ hmem).1);have HT : Hid ((acc0 ++ (ds.take k).flatMap dT ++ ds[k].needs) ++ ds[k].takes = acc0 ++ (ds.take (k + 1)).flatMap dT):=Lib.hid (by rw [flat_take dT ds hkn]; simp [dT]);clear hcell hmem;generalize ds[k] = d at *;generalize acc0 ++ (ds.take k).flatMap dT = acc at *
     have hac2 : acc.length ≤ 3000000:=by
      have : k * 2000 ≤ 1000 * 2000:=Nat.mul_le_mul_right _ (by omega);omega
     have hown1:=hown.alloc (.cells #[encStr d.key,encStr d.src,encStr d.dst,.int .i64 d.time,.slice d.N d.needs.length d.nc,.slice d.T d.takes.length d.tc,encStr d.trick] 120);have hnd1:=hnd.alloc (.cells #[encStr d.key,encStr d.src,encStr d.dst,.int .i64 d.time,.slice d.N d.needs.length d.nc,.slice d.T d.takes.length d.tc,encStr d.trick] 120);have htk1:=htk.alloc (.cells #[encStr d.key,encStr d.src,encStr d.dst,.int .i64 d.time,.slice d.N d.needs.length d.nc,.slice d.T d.takes.length d.tc,encStr d.trick] 120);have hbw1 : Below B0 wb (wr.alloc (.cells #[encStr d.key,encStr d.src,encStr d.dst,.int .i64 d.time,.slice d.N d.needs.length d.nc,.slice d.T d.takes.length d.tc,encStr d.trick] 120)):=hbw.alloc (by omega) _;have hbk:=Blk.new wr 120 #[encStr d.key,encStr d.src,encStr d.dst,.int .i64 d.time,.slice d.N d.needs.length d.nc,.slice d.T d.takes.length d.tc,encStr d.trick];have HKB : Hid (∀ q,(Value.slice A' acc.length c').ownBlock = some q → q < wr.heap.size):=Lib.hid (fun q hq => (hown.lt q hq).2);go_upto_region 10 with (fail);generalize wr.alloc (.cells #[encStr d.key,encStr d.src,encStr d.dst,.int .i64 d.time,.slice d.N d.needs.length d.nc,.slice d.T d.takes.length d.tc,encStr d.trick] 120) = wa at *;have hkl:=hbk.lt;generalize wr.heap.size = kb at *;have hsa:=hbw1.size
     obtain ⟨z4,z5⟩ : _ ∧ _:=⟨hbk.cell 4,hbk.cell 5⟩
     simp only [Q0,Q2,Q1] at z4 z5;clear hbw hown hnd htk y0 y1 y2 y3 y4 y5 y6 hbb;refine wp_region_held_drew (S:=(fun w' => w'.cell? ⟨kb,4,none⟩ = some (.slice d.N d.needs.length d.nc) ∧ w'.cell? ⟨kb,5,none⟩ = some (.slice d.T d.takes.length d.tc))) (by kernel_rfl) (⟨z4,z5⟩) (fun hHeld => ?_);have hown1 : wa.drew.ownsRow B0 9 1 (.slice A' acc.length c') acc.length (strs acc):=hown1;have hnd1 : Row wa.drew lo 1 d.N d.needs.length (strs d.needs):=hnd1;have hbk : Blk wa.drew kb 120 _:=hbk.drew;have hbw1 : Below B0 wb wa.drew:=hbw1.drew;have hkl : kb < wa.drew.heap.size:=hkl;have hsa : wb.heap.size ≤ wa.drew.heap.size:=hsa;clear z4 z5;generalize wa.drew = wa at *;(refine QU 0 ?_; (try simp only [Act.put,Q3,Q4,Q5]));(refine QU 1 ?_; (try simp only [Act.put,Q3,Q4,Q5]));(refine QU 2 ?_; (try simp only [Act.put,Q3,Q4,Q5]));(refine QU 4 ?_; (try simp only [Act.put,Q3,Q4,Q5]));(refine QU 5 ?_; (try simp only [Act.put,Q3,Q4,Q5]));refine QR 3 fun K hK => ?_;refine step_app (lo:=lo) (base:=B0) (n:=acc.length) (xs:=strs acc) _ rfl _ _ ty_strs rfl hown1 rfl hnd1 rfl (strs_all _) (by omega) (by omega) (by omega) ?_;intro A5 c5 w5 hown5 hg5 hx5
     have hx5 : ∀ q,(Value.slice A5 (acc.length + d.needs.length) c5).ownBlock = some q → q < kb ∨ kb < q:=fun q hq => by
      rcases hx5 with h | h
      ·rw [h] at hq; exact .inl (HKB.out q hq)
      ·rw [h] at hq; injection hq with hq; omega
     have hb5 : Below B0 wb w5:=below_app hown1 hbw1 hg5 (Nat.le_refl _) (Nat.le_trans hB1 hsa);have hs5:=hb5.size;have hbk5 : Blk w5 kb 120 _:=(hg5.block kb hbk.lt (fun e => by have:=HKB.out kb e.symm; omega)).trans hbk;rw [show strs acc ++ strs d.needs = strs (acc ++ d.needs) by simp [strs],show acc.length + d.needs.length = (acc ++ d.needs).length by simp] at hown5;rw [show acc.length + d.needs.length = (acc ++ d.needs).length by simp] at hx5;rw [show acc.length + d.needs.length = (acc ++ d.needs).length by simp]
     have hl5 : (acc ++ d.needs).length ≤ 3001000:=by rw [List.length_append]; omega
     have hl6 : (acc ++ d.needs).length ≤ 1000000 + k * 2000 + 1000:=by rw [List.length_append]; omega
     have z4:=hbk5.cell 4;have z5:=hbk5.cell 5;simp only [Q0,Q2,Q1] at z4 z5;have htk5:=HTK.out w5 (hb0.trans (hb5.mono HB0.out));refine hK.out _ _ ?_ (fun _ => ?_)
     ·exact ⟨z4,z5⟩
     clear hK K hown1 hnd1 htk1 hg5 hbk hbw1 hac2 hHeld;(try simp only [Act.put,Q3,Q4,Q5]);have HK5 : Hid (∀ q,(Value.slice A5 (acc ++ d.needs).length c5).ownBlock = some q → q ≠ kb):=Lib.hid (fun q hq => by have:=hx5 q hq; have:=HKB.out; omega);generalize acc ++ d.needs = acc2 at *;refine QR 6 fun K hK => ?_;refine step_app (lo:=lo) (base:=B0) (n:=acc2.length) (xs:=strs acc2) _ rfl _ _ ty_strs rfl hown5 rfl htk5 rfl (strs_all _) (by omega) (by omega) (by omega) ?_;intro A6 c6 w6 hown6 hg6 _;have hb6 : Below B0 wb w6:=below_app hown5 hb5 hg6 (Nat.le_refl _) (Nat.le_trans hB1 hs5);rw [show strs acc2 ++ strs d.takes = strs (acc2 ++ d.takes) by simp [strs],show acc2.length + d.takes.length = (acc2 ++ d.takes).length by simp] at hown6;rw [show acc2.length + d.takes.length = (acc2 ++ d.takes).length by simp]
     have hl7 : (acc2 ++ d.takes).length ≤ 1000000 + (k + 1) * 2000:=by rw [List.length_append,Nat.add_mul]; omega
     have hbk6 : Blk w6 kb 120 _:=(hg6.block kb hbk5.lt (fun e => HK5.out kb e.symm rfl)).trans hbk5;rw [HT.out] at hown6 hl7 ⊢
     obtain ⟨acc3,h3⟩ : ∃ acc3,acc3 = acc0 ++ (ds.take (k + 1)).flatMap dT:=⟨_,rfl⟩
     rw [← h3] at hown6 hl7 ⊢;have H3:=Lib.hid h3;clear h3;have HO6:=Lib.hid hown6;have z4:=hbk6.cell 4;have z5:=hbk6.cell 5;simp only [Q0,Q2,Q1] at z4 z5;refine hK.out _ _ ?_ (fun _ => ?_)
     ·exact ⟨z4,z5⟩
     clear hK K hown6 hg6 hown5 z4 z5 htk5 hbk5 hbk6;(try simp only [Act.put,Q3,Q4,Q5]);(refine QU 7 ?_; (try simp only [Act.put,Q3,Q4,Q5]));refine wpAnyH_done (by kernel_rfl) ?_ _;go_wp2_with fail;go_roundw
     case rel => exact ⟨k + 1,A6,c6,by omega,by go_num,by rw [← H3.out],by rw [← H3.out]; exact HO6.out,by rw [← H3.out]; exact hl7,hb6⟩
     case measure => simp [intOf]; omega
    ·have hke : k = ds.length:=by omega
     subst hke;rw [List.take_length] at hown hacc ⊢;have HAL : Hid (acc0 ++ ds.flatMap dT = allT rs ds):=Lib.hid (by rw [← hac]; rfl);rw [HAL.out] at hown hacc ⊢
     have hal : (allT rs ds).length ≤ 1000000000:=by omega
     have HAL2:=Lib.hid hal;clear hacc hal;go_wp2_with fail;refine (sortT_any A' c' B0 (allT rs ds) _ hown HAL2.out).mono ?_;rintro e w8 ⟨rfl,ho8,hg8⟩;have hs8:=hg8.size;have hb8 : Below w.heap.size w w8:=hbb.grown hg8 hbb.size (fun q hq => Nat.le_trans HB0.out (hown.lt q hq).1);go_wp2_with fail
     have ho8' : w8.ownsRow B0 9 1 (.slice A' (sortT (allT rs ds)).length c') (sortT (allT rs ds)).length (strs (sortT (allT rs ds))):=by rw [HSL.out]; exact ho8
     have hcm:=compactT_any A' c' B0 (sortT (allT rs ds)) _ ho8' (by rw [HSL.out]; exact HAL2.out);rw [HSL.out,← HOO.out] at hcm;refine hcm.mono ?_;rintro e w9 ⟨rfl,ho9,hg9⟩;have hb9 : Below w.heap.size w w9:=hb8.grown hg9 hb8.size (fun q hq => Nat.le_trans HB0.out (ho8.lt q hq).1);have HO9:=Lib.hid (own_down9 ho9 HB0.out);clear ho9 ho8 ho8' hcm hown hg8 hg9;go_wp2_with fail;go_ret;exact ⟨A',c',rfl,HO9.out,hb9⟩
end Go.Proofs.YtjggbpchmbdocaaGreatDoor
/- The walks of TricksOf and tricks. -/
namespace Go.Proofs.YtjggbpchmbdocaaGreatDoor
open Go.RowKit

theorem allK_take (ds : List DoorE) {k : Nat} (hk : k < ds.length) : allK (ds.take (k + 1)) = allK (ds.take k) ++ if ds[k].trick = [] then [] else [ds[k].trick]:=by
 unfold allK;rw [List.take_succ_eq_append_getElem hk,List.filter_append,List.map_append]
 congr 1
 by_cases h : ds[k].trick = []
 ·rw [if_pos h,List.filter_cons_of_neg (by simp [h])]; rfl
 ·rw [if_neg h,List.filter_cons_of_pos (by simp [h])]; rfl
theorem allK_le (ds : List DoorE) : (allK ds).length ≤ ds.length:=by
 unfold allK;rw [List.length_map]; exact List.length_filter_le _ _
set_option maxHeartbeats 4000000 in
set_option maxRecDepth 100000 in
theorem rTricks_any (lo ca cd : Nat) (A : Option Addr) (rs : List RoomE) (D : Option Addr) (ds : List DoorE) (st gl : List UInt8) (w : World) (hA : MapW w lo A rs D ds) :
  Calls Tryz.prog 114 #[mapV A rs ca D ds cd st gl] w fun e w' => ∃ A' c',e = .returned (.slice A' (onceT (allK ds)).length c') ∧ w'.ownsRow w.heap.size 9 1 (.slice A' (onceT (allK ds)).length c') (onceT (allK ds)).length (strs (onceT (allK ds))) ∧ Below w.heap.size w w':=by
 have hb0 : Below w.heap.size w (w.alloc (.cells #[.slice A rs.length ca,.slice D ds.length cd,encStr st,encStr gl] 29)):=(Below.refl _ w).alloc (Nat.le_refl _) _;have hdl:=hA.s.dl;have HA:=Lib.hid hA;have HAL2 : Hid ((allK ds).length ≤ 1000000000):=Lib.hid (by have:=allK_le ds; omega);clear hA;unfold mapV
 go_enter Tryz.func114,Tryz.ntmps114
 go_wp2_with fail;generalize hwb : w.alloc (.cells #[.slice A rs.length ca,.slice D ds.length cd,encStr st,encStr gl] 29) = wb at *
 obtain ⟨B0,hB0⟩ : ∃ B0,B0 = w.heap.size + 1:=⟨_,rfl⟩
 have hB1 : B0 ≤ wb.heap.size:=by rw [hB0,← hwb]; simp
 have HB0 : Hid (w.heap.size ≤ B0):=Lib.hid (by omega);clear hB0 hwb
 go_loopw [3,9] (fun v i wr => ∃ (k : Nat) (A' : Option Addr) (c' : Nat),k ≤ ds.length ∧ i = .int .i64 k ∧ v = .slice A' (allK (ds.take k)).length c' ∧ wr.ownsRow B0 9 1 (.slice A' (allK (ds.take k)).length c') (allK (ds.take k)).length (strs (allK (ds.take k))) ∧ Below B0 wb wr) (fun _ i _ => ds.length - (intOf i).toNat)
 case atStart => exact ⟨0,none,0,Nat.zero_le _,rfl,rfl,World.ownsRow_nil _ _ _ _,Below.refl _ _⟩
 case round =>
  obtain ⟨k,A',c',hk,rfl,rfl,hown,hbw⟩:=hrel;have hsz:=hbw.size;have hbb : Below w.heap.size w wr:=hb0.trans (hbw.mono HB0.out)
  by_cases hkn : k < ds.length
  ·obtain ⟨b,off,rfl,hbs,hcell⟩:=(HA.out.below hbb).door (by omega)
   obtain ⟨y0,y1,y2,y3,y4,y5,y6⟩:=hcell k hkn;have HT:=Lib.hid (allK_take ds hkn)
   have hac : (allK (ds.take k)).length ≤ 1000:=by have:=allK_le (ds.take k); rw [List.length_take] at this; omega
   clear hcell;generalize ds[k] = d at *;generalize allK (ds.take k) = acc at *;simp only [encStr] at y0 y1 y2 y6;have hown1:=hown.alloc (.cells #[.string ⟨d.key.toArray⟩,.string ⟨d.src.toArray⟩,.string ⟨d.dst.toArray⟩,.int .i64 d.time,.slice d.N d.needs.length d.nc,.slice d.T d.takes.length d.tc,.string ⟨d.trick.toArray⟩] 120);have hbw1 : Below B0 wb (wr.alloc (.cells #[.string ⟨d.key.toArray⟩,.string ⟨d.src.toArray⟩,.string ⟨d.dst.toArray⟩,.int .i64 d.time,.slice d.N d.needs.length d.nc,.slice d.T d.takes.length d.tc,.string ⟨d.trick.toArray⟩] 120)):=hbw.alloc (by omega) _;have hbk:=Blk.new wr 120 #[.string ⟨d.key.toArray⟩,.string ⟨d.src.toArray⟩,.string ⟨d.dst.toArray⟩,.int .i64 d.time,.slice d.N d.needs.length d.nc,.slice d.T d.takes.length d.tc,.string ⟨d.trick.toArray⟩];go_upto_region 5 with (fail);generalize wr.alloc (.cells #[.string ⟨d.key.toArray⟩,.string ⟨d.src.toArray⟩,.string ⟨d.dst.toArray⟩,.int .i64 d.time,.slice d.N d.needs.length d.nc,.slice d.T d.takes.length d.tc,.string ⟨d.trick.toArray⟩] 120) = wa at *;have hkl:=hbk.lt;generalize wr.heap.size = kb at *;have hsa:=hbw1.size;have z6:=hbk.cell 6;simp only [Q0,Q2,Q1] at z6;clear hbw hown y0 y1 y2 y3 y4 y5 y6 hbb hbk
   by_cases ht : d.trick = []
   ·have dt : d.trick.isEmpty = true:=by rw [ht]; rfl
    have dt2 : (d.trick == []) = true:=by rw [ht]; rfl
    have HT2 : Hid (allK (ds.take (k + 1)) = acc):=Lib.hid (by rw [HT.out,if_pos ht,List.append_nil]);clear ht;go_wp2_with fail;go_roundw
    case rel => exact ⟨k + 1,A',c',by omega,by go_num,by rw [HT2.out],by rw [HT2.out]; exact hown1,hbw1⟩
    case measure => simp [intOf]; omega
   ·have dt : d.trick.isEmpty = false:=by cases h : d.trick with | nil => exact absurd h ht | cons a l => rfl
    have dt2 : (d.trick == []) = false:=beq_eq_false_iff_ne.2 ht;have HT2 : Hid (allK (ds.take (k + 1)) = acc ++ [d.trick]):=Lib.hid (by rw [HT.out,if_neg ht]);clear ht
    have hBa : B0 ≤ wa.heap.size:=by omega
    go_wp2_with (at_builtin; go_must (refine wpList_app (lo:=B0) (base:=B0) (n:=acc.length) (xs:=strs acc) _ _ rfl _ _ ty_strs rfl (by repeat (first | exact hown1 | refine World.ownsRow.alloc ?_ _ | refine own_drewN ?_ _ | refine World.ownsRow.drew ?_)) rfl (by first | exact row_new' _ (by first | rfl | simp) (by first | omega | (simp; omega)) rfl | exact row_newN _ _ (by first | rfl | simp) (by first | omega | (simp; omega)) rfl | exact row_newD _ (by first | rfl | simp) (by first | omega | (simp; omega)) rfl) rfl rfl (by first | omega | decide) (by first | omega | decide) (by first | omega | (simp; omega)) ?_))
    intro A5 c5 w5 hown5 hg5 _;have hb5 : Below B0 wb w5:=below_app hown1 (hbw1.alloc hBa _) hg5 (Nat.le_refl _) (by simp; omega)
    have hst : strs acc ++ [Value.string ⟨d.trick.toArray⟩] = strs (acc ++ [d.trick]):=by simp [strs,encStr]
    rw [hst,show acc.length + 1 = (acc ++ [d.trick]).length by simp] at hown5;rw [show acc.length + 1 = (acc ++ [d.trick]).length by simp]
    obtain ⟨acc3,h3⟩ : ∃ acc3,acc3 = acc ++ [d.trick]:=⟨_,rfl⟩
    rw [← h3] at hown5 ⊢;have H3:=Lib.hid h3;clear h3 hst;have HO5:=Lib.hid hown5;clear hown5 hg5 hown1 z6;go_wp2_with fail;go_roundw
    case rel => exact ⟨k + 1,A5,c5,by omega,by go_num,by rw [HT2.out,← H3.out],by rw [HT2.out,← H3.out]; exact HO5.out,hb5⟩
    case measure => simp [intOf]; omega
  ·have hke : k = ds.length:=by omega
   subst hke;rw [List.take_length] at hown ⊢;have hor:=onceR_any A' c' B0 (allK ds) wr (Row.of_own hown) HAL2.out;clear hown;go_wp2_with fail;refine hor.mono ?_;rintro e w9 ⟨A9,c9,rfl,ho9,hb9⟩;have HO9:=Lib.hid (own_down9 ho9 hbb.size);clear ho9 hor;go_wp2_with fail;go_ret;exact ⟨A9,c9,rfl,HO9.out,below_up hbb hb9⟩
set_option maxHeartbeats 4000000 in
set_option maxRecDepth 100000 in
theorem tricks_any (lo cd g : Nat) (A : Option Addr) (rs : List RoomE) (D : Option Addr) (ds : List DoorE) (w : World) (hA : MapW w lo A rs D ds) (hg1 : w.cell? ⟨g,1,none⟩ = some (.slice D ds.length cd)) :
  Calls Tryz.prog 118 #[.pointer (some ⟨g,0,none⟩)] w fun e w' => ∃ A' c',e = .returned (.slice A' (onceT (allK ds)).length c') ∧ w'.ownsRow w.heap.size 9 1 (.slice A' (onceT (allK ds)).length c') (onceT (allK ds)).length (strs (onceT (allK ds))) ∧ Below w.heap.size w w':=by
 have hdl:=hA.s.dl;have HA:=Lib.hid hA;have HSL:=Lib.hid (sortT_len (allK ds));have HOO:=Lib.hid (onceT_eq (allK ds));have HAL2 : Hid ((allK ds).length ≤ 1000000000):=Lib.hid (by have:=allK_le ds; omega);clear hA
 go_enter Tryz.func118,Tryz.ntmps118
 go_wp2_with fail;clear hg1
 obtain ⟨wb,hwb⟩ : ∃ wb,wb = w:=⟨_,rfl⟩
 have hb0 : Below w.heap.size w wb:=by rw [hwb]; exact Below.refl _ _
 rw [← hwb]
 obtain ⟨B0,hB0⟩ : ∃ B0,B0 = w.heap.size:=⟨_,rfl⟩
 have hB1 : B0 ≤ wb.heap.size:=by rw [hB0,hwb]; exact Nat.le_refl _
 have HB0 : Hid (w.heap.size ≤ B0):=Lib.hid (by omega);clear hB0 hwb
 go_loopw [3,11] (fun v i wr => ∃ (k : Nat) (A' : Option Addr) (c' : Nat),k ≤ ds.length ∧ i = .int .i64 k ∧ v = .slice A' (allK (ds.take k)).length c' ∧ wr.ownsRow B0 9 1 (.slice A' (allK (ds.take k)).length c') (allK (ds.take k)).length (strs (allK (ds.take k))) ∧ Below B0 wb wr) (fun _ i _ => ds.length - (intOf i).toNat)
 case atStart => exact ⟨0,none,0,Nat.zero_le _,rfl,rfl,World.ownsRow_nil _ _ _ _,Below.refl _ _⟩
 case round =>
  obtain ⟨k,A',c',hk,rfl,rfl,hown,hbw⟩:=hrel;have hsz:=hbw.size;have hbb : Below w.heap.size w wr:=hb0.trans (hbw.mono HB0.out)
  by_cases hkn : k < ds.length
  ·obtain ⟨b,off,rfl,hbs,hcell⟩:=(HA.out.below hbb).door (by omega)
   obtain ⟨y0,y1,y2,y3,y4,y5,y6⟩:=hcell k hkn;have HT:=Lib.hid (allK_take ds hkn)
   have hac : (allK (ds.take k)).length ≤ 1000:=by have:=allK_le (ds.take k); rw [List.length_take] at this; omega
   clear hcell;generalize ds[k] = d at *;generalize allK (ds.take k) = acc at *;simp only [encStr] at y0 y1 y2 y6;have hown1:=hown.alloc (.cells #[.string ⟨d.key.toArray⟩,.string ⟨d.src.toArray⟩,.string ⟨d.dst.toArray⟩,.int .i64 d.time,.slice d.N d.needs.length d.nc,.slice d.T d.takes.length d.tc,.string ⟨d.trick.toArray⟩] 120);have hbw1 : Below B0 wb (wr.alloc (.cells #[.string ⟨d.key.toArray⟩,.string ⟨d.src.toArray⟩,.string ⟨d.dst.toArray⟩,.int .i64 d.time,.slice d.N d.needs.length d.nc,.slice d.T d.takes.length d.tc,.string ⟨d.trick.toArray⟩] 120)):=hbw.alloc (by omega) _;have hbk:=Blk.new wr 120 #[.string ⟨d.key.toArray⟩,.string ⟨d.src.toArray⟩,.string ⟨d.dst.toArray⟩,.int .i64 d.time,.slice d.N d.needs.length d.nc,.slice d.T d.takes.length d.tc,.string ⟨d.trick.toArray⟩];go_upto_region 5 with (fail);generalize wr.alloc (.cells #[.string ⟨d.key.toArray⟩,.string ⟨d.src.toArray⟩,.string ⟨d.dst.toArray⟩,.int .i64 d.time,.slice d.N d.needs.length d.nc,.slice d.T d.takes.length d.tc,.string ⟨d.trick.toArray⟩] 120) = wa at *;have hkl:=hbk.lt;generalize wr.heap.size = kb at *;have hsa:=hbw1.size;have z6:=hbk.cell 6;simp only [Q0,Q2,Q1] at z6;clear hbw hown y0 y1 y2 y3 y4 y5 y6 hbb hbk
   by_cases ht : d.trick = []
   ·have dt : d.trick.isEmpty = true:=by rw [ht]; rfl
    have dt2 : (d.trick == []) = true:=by rw [ht]; rfl
    have HT2 : Hid (allK (ds.take (k + 1)) = acc):=Lib.hid (by rw [HT.out,if_pos ht,List.append_nil]);clear ht;go_wp2_with fail;go_roundw
    case rel => exact ⟨k + 1,A',c',by omega,by go_num,by rw [HT2.out],by rw [HT2.out]; exact hown1,hbw1⟩
    case measure => simp [intOf]; omega
   ·have dt : d.trick.isEmpty = false:=by cases h : d.trick with | nil => exact absurd h ht | cons a l => rfl
    have dt2 : (d.trick == []) = false:=beq_eq_false_iff_ne.2 ht;have HT2 : Hid (allK (ds.take (k + 1)) = acc ++ [d.trick]):=Lib.hid (by rw [HT.out,if_neg ht]);clear ht
    have hBa : B0 ≤ wa.heap.size:=by omega
    go_wp2_with (at_builtin; go_must (refine wpList_app (lo:=B0) (base:=B0) (n:=acc.length) (xs:=strs acc) _ _ rfl _ _ ty_strs rfl (by repeat (first | exact hown1 | refine World.ownsRow.alloc ?_ _ | refine own_drewN ?_ _ | refine World.ownsRow.drew ?_)) rfl (by first | exact row_new' _ (by first | rfl | simp) (by first | omega | (simp; omega)) rfl | exact row_newN _ _ (by first | rfl | simp) (by first | omega | (simp; omega)) rfl | exact row_newD _ (by first | rfl | simp) (by first | omega | (simp; omega)) rfl) rfl rfl (by first | omega | decide) (by first | omega | decide) (by first | omega | (simp; omega)) ?_))
    intro A5 c5 w5 hown5 hg5 _;have hb5 : Below B0 wb w5:=below_app hown1 (hbw1.alloc hBa _) hg5 (Nat.le_refl _) (by simp; omega)
    have hst : strs acc ++ [Value.string ⟨d.trick.toArray⟩] = strs (acc ++ [d.trick]):=by simp [strs,encStr]
    rw [hst,show acc.length + 1 = (acc ++ [d.trick]).length by simp] at hown5;rw [show acc.length + 1 = (acc ++ [d.trick]).length by simp]
    obtain ⟨acc3,h3⟩ : ∃ acc3,acc3 = acc ++ [d.trick]:=⟨_,rfl⟩
    rw [← h3] at hown5 ⊢;have H3:=Lib.hid h3;clear h3 hst;have HO5:=Lib.hid hown5;clear hown5 hg5 hown1 z6;go_wp2_with fail;go_roundw
    case rel => exact ⟨k + 1,A5,c5,by omega,by go_num,by rw [HT2.out,← H3.out],by rw [HT2.out,← H3.out]; exact HO5.out,hb5⟩
    case measure => simp [intOf]; omega
  ·have hke : k = ds.length:=by omega
   subst hke;rw [List.take_length] at hown ⊢;go_wp2_with fail;refine (sortT_any A' c' B0 (allK ds) _ hown HAL2.out).mono ?_;rintro e w8 ⟨rfl,ho8,hg8⟩;have hb8 : Below w.heap.size w w8:=hbb.grown hg8 hbb.size (fun q hq => Nat.le_trans HB0.out (hown.lt q hq).1);go_wp2_with fail
   have ho8' : w8.ownsRow B0 9 1 (.slice A' (sortT (allK ds)).length c') (sortT (allK ds)).length (strs (sortT (allK ds))):=by rw [HSL.out]; exact ho8
   have hcm:=compactT_any A' c' B0 (sortT (allK ds)) _ ho8' (by rw [HSL.out]; exact HAL2.out);rw [HSL.out,← HOO.out] at hcm;refine hcm.mono ?_;rintro e w9 ⟨rfl,ho9,hg9⟩;have hb9 : Below w.heap.size w w9:=hb8.grown hg9 hb8.size (fun q hq => Nat.le_trans HB0.out (ho8.lt q hq).1);have HO9:=Lib.hid (own_down9 ho9 HB0.out);clear ho9 ho8 ho8' hcm hown hg8 hg9;go_wp2_with fail;go_ret;exact ⟨A',c',rfl,HO9.out,hb9⟩
end Go.Proofs.YtjggbpchmbdocaaGreatDoor
/- The walk of CheckMap. -/
namespace Go.Proofs.YtjggbpchmbdocaaGreatDoor
open Go.RowKit

structure McC (w W : World) (g lo : Nat) (A : Option Addr) (rs : List RoomE) (ca : Nat) (D : Option Addr) (ds : List DoorE) (cd : Nat) (st gl : List UInt8) : Prop where
  m : MapW W lo A rs D ds
  bl : Blk W g 29 #[.slice A rs.length ca, .slice D ds.length cd, .string ⟨st.toArray⟩, .string ⟨gl.toArray⟩]
  b : Below w.heap.size w W
section
variable {w W W' : World} {g lo : Nat} {A : Option Addr} {rs : List RoomE} {ca : Nat} {D : Option Addr} {ds : List DoorE} {cd : Nat} {st gl : List UInt8}
theorem McC.below (h : McC w W g lo A rs ca D ds cd st gl) (hb : Below W.heap.size W W') : McC w W' g lo A rs ca D ds cd st gl:=⟨h.m.below hb,h.bl.below hb,below_up h.b hb⟩
theorem McC.cells (h : McC w W g lo A rs ca D ds cd st gl) : W.cell? ⟨g,0,none⟩ = some (.slice A rs.length ca) ∧ W.cell? ⟨g,1,none⟩ = some (.slice D ds.length cd) ∧ W.cell? ⟨g,2,none⟩ = some (.string ⟨st.toArray⟩) ∧ W.cell? ⟨g,3,none⟩ = some (.string ⟨gl.toArray⟩):=⟨h.bl.cell 0,h.bl.cell 1,h.bl.cell 2,h.bl.cell 3⟩
end
set_option maxHeartbeats 4000000 in
set_option maxRecDepth 100000 in
theorem checkMap_any (lo ca cd : Nat) (A : Option Addr) (rs : List RoomE) (D : Option Addr) (ds : List DoorE) (st gl : List UInt8) (w : World) (hA : MapW w lo A rs D ds) :
  Calls Tryz.prog 117 #[mapV A rs ca D ds cd st gl] w fun e w' => e = .returned (.int .i64 (mapE rs ds st gl)) ∧ Below w.heap.size w w':=by
 have hC : McC w (w.alloc (.cells #[.slice A rs.length ca,.slice D ds.length cd,.string ⟨st.toArray⟩,.string ⟨gl.toArray⟩] 29)) w.heap.size lo A rs ca D ds cd st gl:=⟨hA.alloc _,Blk.new _ _ _,(Below.refl _ w).alloc (Nat.le_refl _) _⟩
 have HM : Hid (mapE rs ds st gl = if roomsE rs ≠ 0 then roomsE rs else if doorsE rs ds ≠ 0 then doorsE rs ds else if !hasR rs st || !hasR rs gl then 8 else if 10 < (onceT (allT rs ds)).length ∨ 12 < (onceT (allK ds)).length then 2 else 0):=Lib.hid rfl;clear hA;unfold mapV;simp only [encStr]
 go_enter Tryz.func117,Tryz.ntmps117
 go_wp2_with fail;generalize w.alloc (.cells #[.slice A rs.length ca,.slice D ds.length cd,.string ⟨st.toArray⟩,.string ⟨gl.toArray⟩] 29) = w0 at *;refine (roomsFault_any lo ca A rs D ds _ hC.m).mono ?_;rintro e w1 ⟨rfl,hb1⟩;replace hC:=hC.below hb1;clear hb1
 obtain ⟨re,hre⟩ : ∃ re,re = roomsE rs:=⟨_,rfl⟩
 rw [← hre] at HM ⊢;have HRE:=Lib.hid hre;clear hre
 by_cases h0 : re = 0
 ·have HUP:=Lib.hid (roomsE_up (by rw [← HRE.out]; exact h0))
  have HM2 : Hid (mapE rs ds st gl = if doorsE rs ds ≠ 0 then doorsE rs ds else if !hasR rs st || !hasR rs gl then 8 else if 10 < (onceT (allT rs ds)).length ∨ 12 < (onceT (allK ds)).length then 2 else 0):=Lib.hid (by rw [HM.out,if_neg (fun h => h h0)])
  have d0 : (re != 0) = false:=by rw [h0]; rfl
  clear h0 HM HRE;go_wp2_with fail;clear d0;refine (doorsFault_any lo ca cd w.heap.size A rs D ds _ hC.m HUP.out hC.cells.1 hC.cells.2.1).mono ?_;rintro e w2 ⟨rfl,hb2⟩;replace hC:=hC.below hb2;clear hb2
  obtain ⟨de,hde⟩ : ∃ de,de = doorsE rs ds:=⟨_,rfl⟩
  rw [← hde] at HM2 ⊢;clear hde
  by_cases h0 : de = 0
  ·obtain ⟨rb,hrb⟩ : ∃ rb : Bool,rb = (!hasR rs st || !hasR rs gl):=⟨_,rfl⟩
   have HRB:=Lib.hid hrb;have HM3 : Hid (mapE rs ds st gl = if rb then 8 else if 10 < (onceT (allT rs ds)).length ∨ 12 < (onceT (allK ds)).length then 2 else 0):=Lib.hid (by rw [HM2.out,if_neg (fun h => h h0),hrb])
   have d0 : (de != 0) = false:=by rw [h0]; rfl
   clear h0 HM2 hrb;go_upto_region 7 with (fail);clear d0
   go_cut [15] from 16 to 25 (fun v wx => v = .bool rb ∧ McC w wx w.heap.size lo A rs ca D ds cd st gl)
   case first =>
    obtain ⟨-,-,z2,z3⟩:=hC.cells;go_wp2_with fail;refine (room_any lo ca w.heap.size A rs D ds st _ hC.m HUP.out hC.cells.1).mono ?_;rintro e w3 ⟨rfl,hb3⟩;replace hC:=hC.below hb3;clear z2 z3 hb3
    obtain ⟨x1,hx1⟩ : ∃ x1,x1 = keyI (rs.map RoomE.key) st:=⟨_,rfl⟩
    have h1:=hasR_keyI rs st;rw [← hx1] at h1 ⊢;clear hx1;obtain ⟨-,-,z2,z3⟩:=hC.cells
    cases hs1 : hasR rs st with
    | false =>
     have d1 : decide (x1 < 0) = true:=decide_eq_true (h1.2 hs1);have HV : Hid (rb = true):=Lib.hid (by rw [HRB.out,hs1]; rfl);clear h1 hs1;go_wp2_with fail;go_meet;exact ⟨by rw [HV.out],hC⟩
    | true =>
     have d1 : decide (x1 < 0) = false:=decide_eq_false (fun h => by have:=h1.1 h; rw [hs1] at this; cases this);clear h1;go_wp2_with fail;refine (room_any lo ca w.heap.size A rs D ds gl _ hC.m HUP.out hC.cells.1).mono ?_;rintro e w4 ⟨rfl,hb4⟩;replace hC:=hC.below hb4;clear z2 z3 hb4
     obtain ⟨x2,hx2⟩ : ∃ x2,x2 = keyI (rs.map RoomE.key) gl:=⟨_,rfl⟩
     have h2:=hasR_keyI rs gl;rw [← hx2] at h2 ⊢;clear hx2
     have HV : Hid (decide (x2 < 0) = rb):=Lib.hid (by
      rw [HRB.out,hs1]
      cases hs2 : hasR rs gl with
      | false => simp [h2.2 hs2]
      | true => rw [decide_eq_false (fun h => by have:=h2.1 h; rw [hs2] at this; cases this)]; rfl)
     obtain ⟨x3,hx3⟩ : ∃ x3,x3 = decide (x2 < 0):=⟨_,rfl⟩
     have HX3:=Lib.hid hx3;have hx4 : decide (x2 < 0) = x3:=hx3.symm;clear h2 hs1 hx3;go_wp2_with fail;go_meet;exact ⟨by rw [← HV.out,HX3.out],hC⟩
   case rest =>
   obtain ⟨rfl,hC⟩:=hcut
   cases rb with
   | true =>
    have HV : Hid (mapE rs ds st gl = 8):=Lib.hid (by rw [HM3.out]; rfl);go_wp2_with fail;go_ret;exact ⟨ret_int' HV.out.symm,hC.b⟩
   | false =>
    have HM4 : Hid (mapE rs ds st gl = if 10 < (onceT (allT rs ds)).length ∨ 12 < (onceT (allK ds)).length then 2 else 0):=Lib.hid (by rw [HM3.out,if_neg (by decide)]);clear HM3 HRB;go_wp2_with fail;refine (things_any lo ca cd w.heap.size A rs D ds _ hC.m hC.cells.1 hC.cells.2.1).mono ?_;rintro e w5 ⟨A5,c5,rfl,-,hb5⟩;replace hC:=hC.below hb5;clear hb5;generalize (onceT (allT rs ds)).length = n1 at *
    by_cases h1 : 10 < n1
    ·have HV : Hid (mapE rs ds st gl = 2):=Lib.hid (by rw [HM4.out,if_pos (.inl h1)])
     go_wp2_with fail;go_ret;exact ⟨ret_int' HV.out.symm,hC.b⟩
    ·go_wp2_with fail
     refine (tricks_any lo cd w.heap.size A rs D ds _ hC.m hC.cells.2.1).mono ?_;rintro e w6 ⟨A6,c6,rfl,-,hb6⟩;replace hC:=hC.below hb6;clear hb6;generalize (onceT (allK ds)).length = n2 at *
     by_cases h2 : 12 < n2
     ·have HV : Hid (mapE rs ds st gl = 2):=Lib.hid (by rw [HM4.out,if_pos (.inr h2)])
      go_wp2_with fail;go_ret;exact ⟨ret_int' HV.out.symm,hC.b⟩
     ·have HV : Hid (mapE rs ds st gl = 0):=Lib.hid (by rw [HM4.out,if_neg (by omega)])
      go_wp2_with fail;go_ret;exact ⟨ret_int' HV.out.symm,hC.b⟩
  ·have HV : Hid (mapE rs ds st gl = de):=Lib.hid (by rw [HM2.out,if_pos h0])
   have d0 : (de != 0) = true:=bne_iff_ne.2 h0;clear h0;go_wp2_with fail;go_ret;exact ⟨ret_int' HV.out.symm,hC.b⟩
 ·have HV : Hid (mapE rs ds st gl = re):=Lib.hid (by rw [HM.out,if_pos h0])
  have d0 : (re != 0) = true:=bne_iff_ne.2 h0;clear h0;go_wp2_with fail;go_ret;exact ⟨ret_int' HV.out.symm,hC.b⟩
end Go.Proofs.YtjggbpchmbdocaaGreatDoor
/- The walks of CheckTricks and Tricks. -/
namespace Go.Proofs.YtjggbpchmbdocaaGreatDoor
open Go.RowKit

def trickK (K l : List (List UInt8)) (i : Nat) : Int:=if ¬ l.getD i [] ∈ K then 5 else if 0 < i ∧ ¬ (l.getD (i - 1) [] < l.getD i []) then 7 else 0
theorem getDS {l : List (List UInt8)} {k : Nat} (hk : k < l.length) : l.getD k [] = l[k]:=by
 rw [List.getD_eq_getElem?_getD,List.getElem?_eq_getElem hk]; rfl
theorem trickK_no {K l : List (List UInt8)} {k : Nat} (hk : k < l.length) (h : ¬ l[k] ∈ K) : trickK K l k = 5:=by
 unfold trickK;rw [getDS hk,if_pos h]
theorem trickK_zero {K l : List (List UInt8)} {k : Nat} (h0 : ¬ 0 < k) (hk : k < l.length) (h : l[k] ∈ K) : trickK K l k = 0:=by
 unfold trickK;rw [getDS hk,if_neg (fun e => e h),if_neg (fun e => h0 e.1)]
theorem trickK_pos {K l : List (List UInt8)} {k : Nat} (h0 : 0 < k) (hk : k < l.length) (h : l[k] ∈ K) : trickK K l k = if l[k - 1] < l[k] then 0 else 7:=by
 unfold trickK;rw [getDS hk,getDS (show k - 1 < l.length by omega),if_neg (fun e => e h)]
 by_cases hc : l[k - 1] < l[k]
 ·rw [if_neg (fun e => e.2 hc),if_pos hc]
 ·rw [if_pos ⟨h0,hc⟩,if_neg hc]
theorem row_down0 {w : World} {lo size : Nat} {A : Option Addr} {n : Nat} {cs : List Value} (h : Row w lo size A n cs) : Row w 0 size A n cs :=
 ⟨h.1,fun hn => let ⟨b,off,e,_,h2,h3⟩:=h.2 hn; ⟨b,off,e,Nat.zero_le _,h2,h3⟩⟩
set_option maxHeartbeats 4000000 in
set_option maxRecDepth 100000 in
theorem checkTricks_any (lo ca cd : Nat) (A : Option Addr) (rs : List RoomE) (D : Option Addr) (ds : List DoorE) (st gl : List UInt8) (lo2 c2 : Nat) (B : Option Addr) (l : List (List UInt8)) (w : World) (hA : MapW w lo A rs D ds) (hr : Row w lo2 1 B l.length (strs l)) (hl : l.length ≤ 1000000000) :
  Calls Tryz.prog 51 #[mapV A rs ca D ds cd st gl,.slice B l.length c2] w fun e w' => e = .returned (.int .i64 (tricksE rs ds st gl l)) ∧ Below w.heap.size w w':=by
 have hC : McC w (w.alloc (.cells #[.slice A rs.length ca,.slice D ds.length cd,.string ⟨st.toArray⟩,.string ⟨gl.toArray⟩] 29)) w.heap.size lo A rs ca D ds cd st gl:=⟨hA.alloc _,Blk.new _ _ _,(Below.refl _ w).alloc (Nat.le_refl _) _⟩
 have HKB : Hid ((onceT (allK ds)).length ≤ 1000000000):=Lib.hid (by have:=allK_le ds; have:=onceT_le (allK ds); have:=hA.s.dl; omega);have HTE : Hid (tricksE rs ds st gl l = if mapE rs ds st gl ≠ 0 then mapE rs ds st gl else scanF (trickK (onceT (allK ds)) l) l.length):=Lib.hid rfl;have HR:=Lib.hid hr;clear hA hr;unfold mapV;simp only [encStr]
 go_enter Tryz.func51,Tryz.ntmps51
 go_wp2_with fail;generalize w.alloc (.cells #[.slice A rs.length ca,.slice D ds.length cd,.string ⟨st.toArray⟩,.string ⟨gl.toArray⟩] 29) = w0 at *;have hcm:=checkMap_any lo ca cd A rs D ds st gl w0 hC.m;unfold mapV at hcm;simp only [encStr] at hcm;refine hcm.mono ?_;rintro e w1 ⟨rfl,hb1⟩;replace hC:=hC.below hb1;clear hb1 hcm
 obtain ⟨me,hme⟩ : ∃ me,me = mapE rs ds st gl:=⟨_,rfl⟩
 rw [← hme] at HTE ⊢;clear hme
 by_cases h0 : me = 0
 ·have HT2 : Hid (tricksE rs ds st gl l = scanF (trickK (onceT (allK ds)) l) l.length):=Lib.hid (by rw [HTE.out,if_neg (fun h => h h0)])
  have d0 : (me != 0) = false:=by rw [h0]; rfl
  clear h0 HTE;go_wp2_with fail;refine (tricks_any lo cd w.heap.size A rs D ds _ hC.m hC.cells.2.1).mono ?_;rintro e w2 ⟨A2,k2,rfl,ho2,hb2⟩;replace hC:=hC.below hb2;have HK:=Lib.hid (row_down0 (Row.of_own ho2));have hbw2:=hC.b;clear hb2 ho2 hC d0;generalize onceT (allK ds) = K at *;go_wp2_with fail
  go_loopw [17] (fun i wr => ∃ k : Nat,k ≤ l.length ∧ i = .int .i64 k ∧ Hid (∀ j,j < k → trickK K l j = 0) ∧ Below w2.heap.size w2 wr) (fun i _ => l.length - (intOf i).toNat)
  case atStart => exact ⟨0,Nat.zero_le _,rfl,Lib.hid (fun j hj => by omega),Below.refl _ _⟩
  case round =>
   obtain ⟨k,hk,rfl,HZ,hbr⟩:=hrel;have hbw:=below_up hbw2 hbr;have HBW:=Lib.hid hbw
   by_cases hkn : k < l.length
   ·obtain ⟨b,off,rfl,hbs,hcell⟩:=strs_at (HR.out.below hbw) hkn
    have c0:=hcell k hkn;have HNO:=Lib.hid (trickK_no (K:=K) hkn);have HZE : Hid (¬ 0 < k → l[k] ∈ K → trickK K l k = 0):=Lib.hid (fun h0 => trickK_zero h0 hkn);have HPO : Hid (∀ h0 : 0 < k,l[k] ∈ K → trickK K l k = if l[k - 1] < l[k] then 0 else 7):=Lib.hid (fun h0 => trickK_pos h0 hkn);have HLQ : Hid (∀ h0 : 0 < k,(Op.bytesLess l[k] l[k - 1] || l[k] == l[k - 1]) = !decide (l[k - 1] < l[k])):=Lib.hid (fun h0 => leq_lt _ _);have HCE:=Lib.hid hcell;have HKN:=Lib.hid hkn;have hcon:=containsS_any A2 k2 0 K l[k] wr (HK.out.below hbr) HKB.out;clear hcell hbw;generalize hx : l[k] = x at *;clear hx;unfold encStr at c0 hcon
    by_cases hin : x ∈ K
    ·rw [decide_eq_true hin] at hcon
     by_cases hk0 : k = 0
     ·have d3 : ¬ 0 < k:=by omega
      have HN:=Lib.hid (step_all HZ.out (HZE.out d3 hin));clear hin hk0;go_wp2_with fail;refine hcon.mono ?_;rintro e w3 ⟨rfl,rfl⟩;clear hcon;go_wp2_with fail;go_roundw
      case rel => exact ⟨k + 1,by omega,by go_num,HN,hbr⟩
      case measure => simp [intOf]; omega
     ·have d3 : 0 < k:=by omega
      have c1:=HCE.out (k - 1) (by omega)
      have wk : IntKind.i64.wrap ((k : Int) - 1) = ((k - 1 : Nat) : Int):=by rw [IntWalk.i64_in _ ⟨by omega,by omega⟩]; omega
      have HRP:=Lib.hid (HPO.out d3 hin);have hq:=HLQ.out d3;generalize l[k - 1] = y at *;unfold encStr at c1
      obtain ⟨p1,h1⟩ : ∃ p1,Op.bytesLess x y = p1:=⟨_,rfl⟩
      obtain ⟨p2,h2⟩ : ∃ p2,(x == y) = p2:=⟨_,rfl⟩
      rw [h1,h2] at hq;clear hin hk0
      by_cases hlt : y < x
      ·have hp : p1 = false ∧ p2 = false:=by
        rw [decide_eq_true hlt] at hq
        cases p1 <;> cases p2 <;> simp at hq ⊢
       obtain ⟨rfl,rfl⟩:=hp;have HN:=Lib.hid (step_all HZ.out (by rw [HRP.out,if_pos hlt]));clear hq hlt;go_wp2_with fail;refine hcon.mono ?_;rintro e w3 ⟨rfl,rfl⟩;clear hcon;go_wp2_with fail;go_roundw
       case rel => exact ⟨k + 1,by omega,by go_num,HN,hbr⟩
       case measure => simp [intOf]; omega
      ·have HV : Hid (tricksE rs ds st gl l = 7):=Lib.hid (by
        have h5:=HRP.out;rw [if_neg hlt] at h5
        rw [HT2.out,scanF_hit HKN.out HZ.out (by rw [h5]; decide),h5])
       rw [decide_eq_false hlt] at hq
       have hp : p1 = true ∨ p1 = false ∧ p2 = true:=by
        cases p1 <;> cases p2 <;> simp at hq ⊢
       clear hq hlt;rcases hp with rfl | ⟨rfl,rfl⟩
       all_goals
        go_wp2_with fail;refine hcon.mono ?_;rintro e w3 ⟨rfl,rfl⟩;clear hcon;go_wp2_with fail;go_ret;exact ⟨ret_int' HV.out.symm,HBW.out⟩
    ·rw [decide_eq_false hin] at hcon
     have HV : Hid (tricksE rs ds st gl l = 5):=Lib.hid (by
      have h5:=HNO.out hin
      rw [HT2.out,scanF_hit HKN.out HZ.out (by rw [h5]; decide),h5])
     clear hin;go_wp2_with fail;refine hcon.mono ?_;rintro e w3 ⟨rfl,rfl⟩;clear hcon;go_wp2_with fail;go_ret;exact ⟨ret_int' HV.out.symm,HBW.out⟩
   ·have hke : k = l.length:=by omega
    subst hke;have HV : Hid (tricksE rs ds st gl l = 0):=Lib.hid (by rw [HT2.out]; exact scanF_none HZ.out);clear hbw;go_wp2_with fail;go_ret;exact ⟨ret_int' HV.out.symm,HBW.out⟩
 ·have HV : Hid (tricksE rs ds st gl l = me):=Lib.hid (by rw [HTE.out,if_pos h0])
  have d0 : (me != 0) = true:=bne_iff_ne.2 h0;clear h0;go_wp2_with fail;go_ret;exact ⟨ret_int' HV.out.symm,hC.b⟩
end Go.Proofs.YtjggbpchmbdocaaGreatDoor
/- The walks of the stream's thingList, and of Itoa at one digit. -/
namespace Go.Proofs.YtjggbpchmbdocaaGreatDoor
open Go.RowKit Go.Sort

def OneS (n : Nat) (w : World) (e : Ending) (w' : World) : Prop:=∃ s : List UInt8,e = .returned (.string ⟨s.toArray⟩) ∧ s = [UInt8.ofNat (48 + n)] ∧ w = w'
set_option maxHeartbeats 2000000 in
theorem itoa9_any (n : Nat) (hn : n < 9) (w : World) : Calls Tryz.prog 132 #[.int .i64 (n : Int)] w (OneS n w):=by
 have hs : ∀ w : World,Calls Tryz.prog 218 #[.int .i64 (n : Int)] w (OneS n w):=by
  intro w;rcases (by omega : n = 0 ∨ n = 1 ∨ n = 2 ∨ n = 3 ∨ n = 4 ∨ n = 5 ∨ n = 6 ∨ n = 7 ∨ n = 8) with rfl | rfl | rfl | rfl | rfl | rfl | rfl | rfl | rfl
  all_goals
   go_enter Tryz.func218,Tryz.ntmps218
   go_wp2_with fail;go_ret;exact ⟨_,rfl,by decide,rfl⟩
 have HS:=Lib.hid hs;clear hs
 have h1 : (0 : Int) ≤ (n : Int):=by omega
 have h2 : (n : Int) < 100:=by omega
 have hf : ∀ w : World,Calls Tryz.prog 196 #[.int .i64 (n : Int),.int .i64 10] w (OneS n w):=by
  intro w
  go_enter Tryz.func196,Tryz.ntmps196
  go_wp2_with fail;refine (HS.out _).mono ?_;rintro e w1 ⟨s,rfl,hl,rfl⟩;have HL:=Lib.hid hl;clear hl;go_wp2_with fail;go_ret;exact ⟨s,rfl,HL.out,rfl⟩
 have HF:=Lib.hid hf
 have hi : ∀ w : World,Calls Tryz.prog 164 #[.int .i64 (n : Int)] w (OneS n w):=by
  intro w;clear hf
  go_enter Tryz.func164,Tryz.ntmps164
  go_wp2_with fail;refine (HF.out _).mono ?_;rintro e w1 ⟨s,rfl,hl,rfl⟩;have HL:=Lib.hid hl;clear hl;go_wp2_with fail;go_ret;exact ⟨s,rfl,HL.out,rfl⟩
 have HI:=Lib.hid hi;clear hi hf
 go_enter Tryz.func132,Tryz.ntmps132
 go_wp2_with fail;refine (HI.out _).mono ?_;rintro e w1 ⟨s,rfl,hl,rfl⟩;have HL:=Lib.hid hl;clear hl;go_wp2_with fail;go_ret;exact ⟨s,rfl,HL.out,rfl⟩
theorem Blk.grownM {w w' : World} {g : Nat} {t : TypeId} {cs : Array Value} {row : Option Nat} (h : Blk w g t cs) (hg : w.grownBy w' row) (hne : ∀ b,row = some b → b ≠ g) : Blk w' g t cs :=
 (hg.block g h.lt (fun e => hne g e.symm rfl)).trans h
def thingsL : List (List UInt8):=[[103,117,110],[107,101,121],[109,97,112]]
def ThPost (w : World) (g N : Nat) (e : Ending) (w' : World) : Prop :=
 ∃ (A : Option Addr) (c : Nat) (l : List (List UInt8)),e = .returned (.slice A l.length c) ∧ w'.ownsRow w.heap.size 9 1 (.slice A l.length c) l.length (strs l) ∧ l.length ≤ 3 ∧ (∀ s ∈ l,s.length ≤ 3) ∧ l.Sublist thingsL ∧ Str w' g N ∧ w.grownBy w' (some g)
set_option maxHeartbeats 1000000 in
theorem thingList_any (g N : Nat) (m : Int) (w : World) (hs : Str w g N) (hN : N < 4611686018427387000) (hm : m ≤ 9223372036854775807) :
  Calls Tryz.prog 151 #[.pointer (some ⟨g,0,none⟩),.int .i64 m] w (ThPost w g (N + 3)):=by
 have hlt:=hs.lt;have hbl0:=Blk.new w 9 #[.string ⟨#[103,117,110]⟩,.string ⟨#[107,101,121]⟩,.string ⟨#[109,97,112]⟩];have hgr0 : w.grownBy (w.alloc (.cells #[.string ⟨#[103,117,110]⟩,.string ⟨#[107,101,121]⟩,.string ⟨#[109,97,112]⟩] 9)) (some g):=World.grownBy_alloc _ _ _;have hs0:=hs.alloc (.cells #[.string ⟨#[103,117,110]⟩,.string ⟨#[107,101,121]⟩,.string ⟨#[109,97,112]⟩] 9)
 go_enter Tryz.func151,Tryz.ntmps151
 go_wp2_with fail;generalize w.alloc (.cells #[.string ⟨#[103,117,110]⟩,.string ⟨#[107,101,121]⟩,.string ⟨#[109,97,112]⟩] 9) = w0 at *
 go_loopw [5,10] (fun v i wr => ∃ (k : Nat) (A : Option Addr) (c : Nat) (l : List (List UInt8)),k ≤ 3 ∧ i = .int .i64 k ∧ v = .slice A l.length c ∧ wr.ownsRow (w.heap.size + 1) 9 1 (.slice A l.length c) l.length (strs l) ∧ l.length ≤ k ∧ Hid (∀ s ∈ l,s.length ≤ 3) ∧ Hid (l.Sublist (thingsL.take k)) ∧ Str wr g (N + k) ∧ w.grownBy wr (some g) ∧ Blk wr w.heap.size 9 #[.string ⟨#[103,117,110]⟩,.string ⟨#[107,101,121]⟩,.string ⟨#[109,97,112]⟩] ∧ w.heap.size < wr.heap.size) (fun _ i _ => 3 - (intOf i).toNat)
 case atStart => exact ⟨0,none,0,[],by omega,rfl,rfl,World.ownsRow_nil _ _ _ _,by simp,Lib.hid (by simp),Lib.hid (by simp),hs0,hgr0,hbl0,hbl0.lt⟩
 case round =>
  clear hbl0 hgr0 hs0;obtain ⟨k,A,c,l,hk,rfl,rfl,hown,hlk,HSL,HSU,hsr,hgr,hblr,hzw⟩:=hrel
  by_cases hk3 : k < 3
  ·have hrow : Row wr w.heap.size 1 (some ⟨w.heap.size,0,none⟩) 3 (strs thingsL):=Row.lit hblr (Nat.le_refl _) rfl
   obtain ⟨b,off,he,hbs,hcell⟩:=strs_at (l:=thingsL) hrow (k:=k) hk3;injection he with he;injection he with e1 e2;subst e1 e2;have y0:=hcell k hk3
   have HTL : Hid (thingsL[k].length ≤ 3):=Lib.hid (by
    have : ∀ j : Fin 3,(thingsL[j.val]'(j.isLt)).length ≤ 3:=by decide
    exact this ⟨k,hk3⟩)
   have HTK : Hid (thingsL.take (k + 1) = thingsL.take k ++ [thingsL[k]]):=Lib.hid (List.take_succ_eq_append_getElem (l:=thingsL) (i:=k) hk3);rw [Nat.zero_add] at y0;clear hcell;generalize thingsL[k] = x at *;simp only [encStr] at y0;go_wp2_with fail;refine (flip_any g _ m _ hsr (by omega) hm).mono ?_;rintro e w2 ⟨r2,rfl,hs2,hg2⟩;have hgr2:=grown_trans' hgr hg2;have hown2:=own_grown hown hg2 (by omega);have hbl2:=hblr.grown hg2 (by omega);have hz2:=hg2.size;clear y0 hown hrow hg2 hgr
   cases r2
   ·go_wp2_with fail
    go_roundw
    case rel => exact ⟨k + 1,A,c,l,by omega,by go_num,rfl,hown2,by omega,HSL,Lib.hid (by rw [HTK.out]; exact HSU.out.trans (List.sublist_append_left _ _)),hs2,hgr2,hbl2,by omega⟩
    case measure => simp [intOf]; omega
   ·go_wp2_with (at_builtin; go_must (refine wpList_app (lo:=w.heap.size + 1) (base:=w.heap.size + 1) (n:=l.length) (xs:=strs l) _ _ rfl _ _ ty_strs rfl (by repeat (first | exact hown2 | refine World.ownsRow.alloc ?_ _ | refine own_drewN ?_ _ | refine World.ownsRow.drew ?_)) rfl (by first | exact row_new' _ (by first | rfl | simp) (by first | omega | (simp; omega)) rfl | exact row_newN _ _ (by first | rfl | simp) (by first | omega | (simp; omega)) rfl | exact row_newD _ (by first | rfl | simp) (by first | omega | (simp; omega)) rfl) rfl rfl (by first | omega | decide) (by first | omega | decide) (by first | omega | (simp; omega)) ?_))
    intro A5 c5 w5 hown5 hg5 _;have HO5 : Hid (w5.ownsRow (w.heap.size + 1) 9 1 (.slice A5 (l ++ [x]).length c5) (l ++ [x]).length (strs (l ++ [x]))):=Lib.hid (by simpa [strs,encStr] using hown5);have hs5:=(hs2.alloc (.cells #[.string ⟨x.toArray⟩] 9)).app (hown2.alloc _) hg5 (by omega);have hgr5:=grown_app (grown_alloc hgr2 (.cells #[.string ⟨x.toArray⟩] 9)) (hown2.alloc _) hg5 (by omega);have hz5:=hg5.size;have hbl5:=(hbl2.alloc (.cells #[.string ⟨x.toArray⟩] 9)).grownM hg5 (fun q hq => by have:=((hown2.alloc (.cells #[.string ⟨x.toArray⟩] 9)).lt q hq).1; omega)
    have HL5 : Hid (∀ s ∈ l ++ [x],s.length ≤ 3):=Lib.hid (by
     intro s hs; rcases List.mem_append.1 hs with h | h
     ·exact HSL.out s h
     ·simp at h; subst h; exact HTL.out)
    clear hown2 hown5 hg5;go_wp2_with fail;go_roundw
    case rel => exact ⟨k + 1,A5,c5,l ++ [x],by omega,by go_num,by simp,HO5.out,by simp; omega,HL5,Lib.hid (by rw [HTK.out]; exact HSU.out.append_right _),hs5.more (by omega),hgr5,hbl5,by simp at hz5; omega⟩
    case measure => simp [intOf]; omega
  ·have HO:=Lib.hid (own_weak hown (show w.heap.size ≤ w.heap.size + 1 by omega))
   clear hown;go_wp2_with fail;go_ret;exact ⟨A,c,l,rfl,HO.out,by omega,HSL.out,by have:=HSU.out; rw [show k = 3 by omega] at this; exact this,hsr.more (by omega),hgr⟩
end Go.Proofs.YtjggbpchmbdocaaGreatDoor
