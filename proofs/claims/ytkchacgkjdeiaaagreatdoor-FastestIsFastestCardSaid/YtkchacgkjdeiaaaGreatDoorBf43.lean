/- Texts of this seat, laid together: MqT MqU MqV MqW MqX MpA WkA WkB WkC. -/
import Derived.Test.YtkchacgkjdeiaaaGreatDoorBf42
import Derived.Test.YtkchacgkjdeiaaaGreatDoorBf40
import Derived.Test.YtkchacgkjdeiaaaGreatDoorBf28
import Derived.Test.YtkchacgkjdeiaaaGreatDoorBf20
import Derived.Test.YtkchacgkjdeiaaaGreatDoorBf04
import Derived.Test.YtkchacgkjdeiaaaGreatDoorBf05
import Derived.Test.YtkchacgkjdeiaaaGreatDoorBf41
import Derived.Test.YtkchacgkjdeiaaaGreatDoorBf32
/- The walks of once, things, tricks, ThingsOf and TricksOf. -/
set_option linter.unusedVariables false
set_option linter.unusedSimpArgs false
namespace Go.Proofs.YtkchacgkjdeiaaaGreatDoor
open Go.RowKit

theorem onceT_eq (l : List (List UInt8)) : onceT l = Lib.compact (sortT l):=rfl
theorem onceT_le (l : List (List UInt8)) : (onceT l).length ≤ l.length:=by rw [onceT_eq]; exact Nat.le_trans (compact_le _) (by rw [sortT_len]; exact Nat.le_refl _)
theorem flat_take {α β : Type} (f : α → List β) (l : List α) {k : Nat} (hk : k < l.length) : (l.take (k + 1)).flatMap f = (l.take k).flatMap f ++ f l[k]:=by
 rw [List.take_succ_eq_append_getElem hk,List.flatMap_append]; simp
theorem own_down9 {w : World} {base base' : Nat} {e : TypeId} {size : Nat} {v : Value} {n : Nat} {xs : List Value} (h : w.ownsRow base e size v n xs) (hb : base' ≤ base) : w.ownsRow base' e size v n xs :=
 ⟨h.1,h.2.imp id fun ⟨g,cap,cur,h1,h2,h3⟩ => ⟨g,cap,cur,h1,Nat.le_trans hb h2,h3⟩⟩
def dT (d : DoorE) : List (List UInt8):=d.needs ++ d.takes
end Go.Proofs.YtkchacgkjdeiaaaGreatDoor
/- The walk of things. -/
namespace Go.Proofs.YtkchacgkjdeiaaaGreatDoor
open Go.RowKit

set_option maxHeartbeats 4000000 in
set_option maxRecDepth 100000 in
theorem things_any (lo ca cd g : Nat) (A : Option Addr) (rs : List RoomE) (D : Option Addr) (ds : List DoorE) (w : World) (hA : MapW w lo A rs D ds) (hg0 : w.cell? ⟨g,0,none⟩ = some (.slice A rs.length ca)) (hg1 : w.cell? ⟨g,1,none⟩ = some (.slice D ds.length cd)) :
  Calls Tryz.prog 169 #[.pointer (some ⟨g,0,none⟩)] w fun e w' => ∃ A' c',e = .returned (.slice A' (onceT (allT rs ds)).length c') ∧ w'.ownsRow w.heap.size 9 1 (.slice A' (onceT (allT rs ds)).length c') (onceT (allT rs ds)).length (strs (onceT (allT rs ds))) ∧ Below w.heap.size w w':=by
 have hgl:=World.block_lt_of_cell? w ⟨g,0,none⟩ hg0;simp only at hgl;have hrl:=hA.s.rl;have hdl:=hA.s.dl;have HA:=Lib.hid hA;have HG1:=Lib.hid hg1;have HSL:=Lib.hid (sortT_len (allT rs ds));have HOO:=Lib.hid (onceT_eq (allT rs ds));clear hA
 go_enter Tryz.func169,Tryz.ntmps169
 go_wp2_with fail;clear hg0 hg1
 obtain ⟨wb,hwb⟩ : ∃ wb,wb = w:=⟨_,rfl⟩
 have hb0 : Below w.heap.size w wb:=by rw [hwb]; exact Below.refl _ _
 rw [← hwb]
 obtain ⟨B0,hB0⟩ : ∃ B0,B0 = w.heap.size:=⟨_,rfl⟩
 have hB1 : B0 ≤ wb.heap.size:=by rw [hB0,hwb]; exact Nat.le_refl _
 have HB0 : Hid (w.heap.size ≤ B0):=Lib.hid (by omega);have HGB : Hid (g < B0):=Lib.hid (by omega);have HWB:=Lib.hid hwb;clear hB0 hwb
 go_loopw [3,13] (fun v i wr => ∃ (k : Nat) (A' : Option Addr) (c' : Nat),k ≤ rs.length ∧ i = .int .i64 k ∧ v = .slice A' ((rs.take k).flatMap RoomE.gives).length c' ∧ wr.ownsRow B0 9 1 (.slice A' ((rs.take k).flatMap RoomE.gives).length c') ((rs.take k).flatMap RoomE.gives).length (strs ((rs.take k).flatMap RoomE.gives)) ∧ ((rs.take k).flatMap RoomE.gives).length ≤ k * 1000 ∧ Below B0 wb wr) (fun _ i _ => rs.length - (intOf i).toNat)
 case atStart => exact ⟨0,none,0,Nat.zero_le _,rfl,rfl,World.ownsRow_nil _ _ _ _,Nat.le_refl _,Below.refl _ _⟩
 case round =>
  obtain ⟨k,A',c',hk,rfl,rfl,hown,hacc,hbw⟩:=hrel;have hsz:=hbw.size;have hbb : Below w.heap.size w wr:=hb0.trans (hbw.mono HB0.out)
  by_cases hkn : k < rs.length
  ·obtain ⟨b,off,rfl,hbs,hcell⟩:=(HA.out.below hbb).room (by omega)
   obtain ⟨y0,y1⟩:=hcell k hkn;have hmem:=List.getElem_mem hkn;have hgv:=((HA.out.below hbb).gives _ hmem).1;have hgl:=(HA.out.s.rg _ hmem).1;have HT:=Lib.hid (flat_take RoomE.gives rs hkn);clear hcell hmem;generalize rs[k] = r at *;generalize (rs.take k).flatMap RoomE.gives = acc at *
   have hk1 : k ≤ 1000:=by omega
   have hac2 : acc.length ≤ 1000000:=by
    have : k * 1000 ≤ 1000 * 1000:=Nat.mul_le_mul_right _ hk1;omega
   have hown1:=hown.alloc (.cells #[encStr r.key,.slice r.B r.gives.length r.c] 134);have hgv1:=hgv.alloc (.cells #[encStr r.key,.slice r.B r.gives.length r.c] 134);have hbw1 : Below B0 wb (wr.alloc (.cells #[encStr r.key,.slice r.B r.gives.length r.c] 134)):=hbw.alloc (by omega) _;have hbk:=Blk.new wr 134 #[encStr r.key,.slice r.B r.gives.length r.c];go_upto_region 5 with (fail);generalize wr.alloc (.cells #[encStr r.key,.slice r.B r.gives.length r.c] 134) = wa at *;have hsa:=hbw1.size;have z1:=hbk.cell 1;simp only [Q0,Q2,Q1] at z1;clear hbw hown hgv y0 y1 hbb hbk
   go_wp2_with (at_builtin; go_must (refine wpList_app (base:=B0) (lo:=lo) (n:=acc.length) (xs:=strs acc) _ _ rfl _ _ ty_strs rfl hown1 rfl hgv1 rfl (strs_all _) (by omega) (by omega) (by omega) ?_))
   intro A5 c5 w5 hown5 hg5 _;have hb5 : Below B0 wb w5:=below_app hown1 hbw1 hg5 (Nat.le_refl _) (Nat.le_trans hB1 hsa);rw [show strs acc ++ strs r.gives = strs (acc ++ r.gives) by simp [strs],show acc.length + r.gives.length = (acc ++ r.gives).length by simp] at hown5;rw [show acc.length + r.gives.length = (acc ++ r.gives).length by simp]
   have hl5 : (acc ++ r.gives).length ≤ (k + 1) * 1000:=by rw [List.length_append,Nat.add_mul]; omega
   rw [← HT.out] at hown5 hl5 ⊢;have HO5:=Lib.hid hown5;clear hown5 hg5 hown1 hgv1 z1;go_wp2_with fail;go_roundw
   case rel => exact ⟨k + 1,A5,c5,by omega,by go_num,rfl,HO5.out,hl5,hb5⟩
   case measure => simp [intOf]; omega
  ·have hke : k = rs.length:=by omega
   subst hke;rw [List.take_length] at hown hacc ⊢;have HBB:=Lib.hid hbb;have z1:=(hbb.cell (p:=⟨g,1,none⟩) (by exact hgl)).trans HG1.out;generalize hac : rs.flatMap RoomE.gives = acc0 at *
   have hac0 : acc0.length ≤ 1000000:=by omega
   clear hacc hbb;go_wp2_with fail;clear z1;have HBW:=Lib.hid hbw
   go_loopw [3,27] (fun v i wr => ∃ (k : Nat) (A' : Option Addr) (c' : Nat),k ≤ ds.length ∧ i = .int .i64 k ∧ v = .slice A' (acc0 ++ (ds.take k).flatMap dT).length c' ∧ wr.ownsRow B0 9 1 (.slice A' (acc0 ++ (ds.take k).flatMap dT).length c') (acc0 ++ (ds.take k).flatMap dT).length (strs (acc0 ++ (ds.take k).flatMap dT)) ∧ (acc0 ++ (ds.take k).flatMap dT).length ≤ 1000000 + k * 2000 ∧ Below B0 wb wr) (fun _ i _ => ds.length - (intOf i).toNat)
   case atStart => exact ⟨0,A',c',Nat.zero_le _,rfl,by simp,by simpa using hown,by simp; omega,hbw⟩
   case round =>
    clear hown hbw hsz;obtain ⟨k,A',c',hk,rfl,rfl,hown,hacc,hbw⟩:=hrel;have hsz:=hbw.size;have hbb : Below w.heap.size w wr:=hb0.trans (hbw.mono HB0.out)
    by_cases hkn : k < ds.length
    ·obtain ⟨b,off,rfl,hbs,hcell⟩:=(HA.out.below hbb).door (by omega)
     obtain ⟨y0,y1,y2,y3,y4,y5,y6⟩:=hcell k hkn;have hmem:=List.getElem_mem hkn;have hnd:=((HA.out.below hbb).needs _ hmem).1;have htk:=((HA.out.below hbb).takes _ hmem).1;have hnl:=(HA.out.s.dn _ hmem).1;have htl:=(HA.out.s.dx _ hmem).1;have HTK : Hid (∀ W,Below w.heap.size w W → Row W lo 1 ds[k].T ds[k].takes.length (strs ds[k].takes)):=Lib.hid (fun W hW => ((HA.out.below hW).takes _ hmem).1);have HT : Hid ((acc0 ++ (ds.take k).flatMap dT ++ ds[k].needs) ++ ds[k].takes = acc0 ++ (ds.take (k + 1)).flatMap dT):=Lib.hid (by rw [flat_take dT ds hkn]; simp [dT]);clear hcell hmem;generalize ds[k] = d at *;generalize acc0 ++ (ds.take k).flatMap dT = acc at *
     have hac2 : acc.length ≤ 3000000:=by
      have : k * 2000 ≤ 1000 * 2000:=Nat.mul_le_mul_right _ (by omega);omega
     have hown1:=hown.alloc (.cells #[encStr d.key,encStr d.src,encStr d.dst,.int .i64 d.time,.slice d.N d.needs.length d.nc,.slice d.T d.takes.length d.tc,encStr d.trick] 137);have hnd1:=hnd.alloc (.cells #[encStr d.key,encStr d.src,encStr d.dst,.int .i64 d.time,.slice d.N d.needs.length d.nc,.slice d.T d.takes.length d.tc,encStr d.trick] 137);have htk1:=htk.alloc (.cells #[encStr d.key,encStr d.src,encStr d.dst,.int .i64 d.time,.slice d.N d.needs.length d.nc,.slice d.T d.takes.length d.tc,encStr d.trick] 137);have hbw1 : Below B0 wb (wr.alloc (.cells #[encStr d.key,encStr d.src,encStr d.dst,.int .i64 d.time,.slice d.N d.needs.length d.nc,.slice d.T d.takes.length d.tc,encStr d.trick] 137)):=hbw.alloc (by omega) _;have hbk:=Blk.new wr 137 #[encStr d.key,encStr d.src,encStr d.dst,.int .i64 d.time,.slice d.N d.needs.length d.nc,.slice d.T d.takes.length d.tc,encStr d.trick];have HKB : Hid (∀ q,(Value.slice A' acc.length c').ownBlock = some q → q < wr.heap.size):=Lib.hid (fun q hq => (hown.lt q hq).2);go_upto_region 10 with (fail);generalize wr.alloc (.cells #[encStr d.key,encStr d.src,encStr d.dst,.int .i64 d.time,.slice d.N d.needs.length d.nc,.slice d.T d.takes.length d.tc,encStr d.trick] 137) = wa at *;have hkl:=hbk.lt;generalize wr.heap.size = kb at *;have hsa:=hbw1.size
     obtain ⟨z4,z5⟩ : _ ∧ _:=⟨hbk.cell 4,hbk.cell 5⟩
     simp only [Q0,Q2,Q1] at z4 z5;clear hbw hown hnd htk y0 y1 y2 y3 y4 y5 y6 hbb;refine wp_region_held_drew (S:=(fun w' => w'.cell? ⟨kb,4,none⟩ = some (.slice d.N d.needs.length d.nc) ∧ w'.cell? ⟨kb,5,none⟩ = some (.slice d.T d.takes.length d.tc))) (by kernel_rfl) (⟨z4,z5⟩) (fun hHeld => ?_);have hown1 : wa.drew.ownsRow B0 9 1 (.slice A' acc.length c') acc.length (strs acc):=hown1;have hnd1 : Row wa.drew lo 1 d.N d.needs.length (strs d.needs):=hnd1;have hbk : Blk wa.drew kb 137 _:=hbk.drew;have hbw1 : Below B0 wb wa.drew:=hbw1.drew;have hkl : kb < wa.drew.heap.size:=hkl;have hsa : wb.heap.size ≤ wa.drew.heap.size:=hsa;clear z4 z5;generalize wa.drew = wa at *;(refine QU 0 ?_; (try simp only [Act.put,Q3,Q4,Q5]));(refine QU 1 ?_; (try simp only [Act.put,Q3,Q4,Q5]));(refine QU 2 ?_; (try simp only [Act.put,Q3,Q4,Q5]));(refine QU 4 ?_; (try simp only [Act.put,Q3,Q4,Q5]));(refine QU 5 ?_; (try simp only [Act.put,Q3,Q4,Q5]));refine QR 3 fun K hK => ?_;refine step_app (lo:=lo) (base:=B0) (n:=acc.length) (xs:=strs acc) _ rfl _ _ ty_strs rfl hown1 rfl hnd1 rfl (strs_all _) (by omega) (by omega) (by omega) ?_;intro A5 c5 w5 hown5 hg5 hx5
     have hx5 : ∀ q,(Value.slice A5 (acc.length + d.needs.length) c5).ownBlock = some q → q < kb ∨ kb < q:=fun q hq => by
      rcases hx5 with h | h
      ·rw [h] at hq; exact .inl (HKB.out q hq)
      ·rw [h] at hq; injection hq with hq; omega
     have hb5 : Below B0 wb w5:=below_app hown1 hbw1 hg5 (Nat.le_refl _) (Nat.le_trans hB1 hsa);have hs5:=hb5.size;have hbk5 : Blk w5 kb 137 _:=(hg5.block kb hbk.lt (fun e => by have:=HKB.out kb e.symm; omega)).trans hbk;rw [show strs acc ++ strs d.needs = strs (acc ++ d.needs) by simp [strs],show acc.length + d.needs.length = (acc ++ d.needs).length by simp] at hown5;rw [show acc.length + d.needs.length = (acc ++ d.needs).length by simp] at hx5;rw [show acc.length + d.needs.length = (acc ++ d.needs).length by simp]
     have hl5 : (acc ++ d.needs).length ≤ 3001000:=by rw [List.length_append]; omega
     have hl6 : (acc ++ d.needs).length ≤ 1000000 + k * 2000 + 1000:=by rw [List.length_append]; omega
     have z4:=hbk5.cell 4;have z5:=hbk5.cell 5;simp only [Q0,Q2,Q1] at z4 z5;have htk5:=HTK.out w5 (hb0.trans (hb5.mono HB0.out));refine hK.out _ _ ?_ (fun _ => ?_)
     ·exact ⟨z4,z5⟩
     clear hK K hown1 hnd1 htk1 hg5 hbk hbw1 hac2 hHeld;(try simp only [Act.put,Q3,Q4,Q5]);have HK5 : Hid (∀ q,(Value.slice A5 (acc ++ d.needs).length c5).ownBlock = some q → q ≠ kb):=Lib.hid (fun q hq => by have:=hx5 q hq; have:=HKB.out; omega);generalize acc ++ d.needs = acc2 at *;refine QR 6 fun K hK => ?_;refine step_app (lo:=lo) (base:=B0) (n:=acc2.length) (xs:=strs acc2) _ rfl _ _ ty_strs rfl hown5 rfl htk5 rfl (strs_all _) (by omega) (by omega) (by omega) ?_;intro A6 c6 w6 hown6 hg6 _;have hb6 : Below B0 wb w6:=below_app hown5 hb5 hg6 (Nat.le_refl _) (Nat.le_trans hB1 hs5);rw [show strs acc2 ++ strs d.takes = strs (acc2 ++ d.takes) by simp [strs],show acc2.length + d.takes.length = (acc2 ++ d.takes).length by simp] at hown6;rw [show acc2.length + d.takes.length = (acc2 ++ d.takes).length by simp]
     have hl7 : (acc2 ++ d.takes).length ≤ 1000000 + (k + 1) * 2000:=by rw [List.length_append,Nat.add_mul]; omega
     have hbk6 : Blk w6 kb 137 _:=(hg6.block kb hbk5.lt (fun e => HK5.out kb e.symm rfl)).trans hbk5;rw [HT.out] at hown6 hl7 ⊢
     obtain ⟨acc3,h3⟩ : ∃ acc3,acc3 = acc0 ++ (ds.take (k + 1)).flatMap dT:=⟨_,rfl⟩
     rw [← h3] at hown6 hl7 ⊢;have H3:=Lib.hid h3;clear h3;have HO6:=Lib.hid hown6;have z4:=hbk6.cell 4;have z5:=hbk6.cell 5;simp only [Q0,Q2,Q1] at z4 z5;refine hK.out _ _ ?_ (fun _ => ?_)
     ·exact ⟨z4,z5⟩
     clear hK K hown6 hg6 hown5 z4 z5 htk5 hbk5 hbk6;(try simp only [Act.put,Q3,Q4,Q5]);(refine QU 7 ?_; (try simp only [Act.put,Q3,Q4,Q5]));refine wpAnyH_done (by kernel_rfl) ?_ _;go_wp2_with fail;go_roundw
     case rel => exact ⟨k + 1,A6,c6,by omega,by go_num,by rw [← H3.out],by rw [← H3.out]; exact HO6.out,by rw [← H3.out]; exact hl7,hb6⟩
     case measure => simp [intOf]; omega
    ·have hke : k = ds.length:=by omega
     subst hke;rw [List.take_length] at hown hacc ⊢;have HAL : Hid (acc0 ++ ds.flatMap dT = allT rs ds):=Lib.hid (by rw [← hac]; rfl);rw [HAL.out] at hown hacc ⊢
     have hal : (allT rs ds).length ≤ 1000000000:=by omega
     have HAL2:=Lib.hid hal;clear hacc hal;go_wp2_with fail;refine (sortT_any A' c' B0 (allT rs ds) _ hown HAL2.out).mono ?_;rintro e w8 ⟨rfl,ho8,hg8⟩;have hs8:=hg8.size;have hb8 : Below w.heap.size w w8:=hbb.grown hg8 hbb.size (fun q hq => Nat.le_trans HB0.out (hown.lt q hq).1);go_wp2_with fail
     have ho8' : w8.ownsRow B0 9 1 (.slice A' (sortT (allT rs ds)).length c') (sortT (allT rs ds)).length (strs (sortT (allT rs ds))):=by rw [HSL.out]; exact ho8
     have hcm:=compactT_any A' c' B0 (sortT (allT rs ds)) _ ho8' (by rw [HSL.out]; exact HAL2.out);rw [HSL.out,← HOO.out] at hcm;refine hcm.mono ?_;rintro e w9 ⟨rfl,ho9,hg9⟩;have hb9 : Below w.heap.size w w9:=hb8.grown hg9 hb8.size (fun q hq => Nat.le_trans HB0.out (ho8.lt q hq).1);have HO9:=Lib.hid (own_down9 ho9 HB0.out);clear ho9 ho8 ho8' hcm hown hg8 hg9;go_wp2_with fail;go_ret;exact ⟨A',c',rfl,HO9.out,hb9⟩
end Go.Proofs.YtkchacgkjdeiaaaGreatDoor
/- The walks of TricksOf and tricks. -/
namespace Go.Proofs.YtkchacgkjdeiaaaGreatDoor
open Go.RowKit

theorem allK_take (ds : List DoorE) {k : Nat} (hk : k < ds.length) : allK (ds.take (k + 1)) = allK (ds.take k) ++ if ds[k].trick = [] then [] else [ds[k].trick]:=by
 unfold allK;rw [List.take_succ_eq_append_getElem hk,List.filter_append,List.map_append]
 congr 1
 by_cases h : ds[k].trick = []
 ·rw [if_pos h,List.filter_cons_of_neg (by simp [h])]; rfl
 ·rw [if_neg h,List.filter_cons_of_pos (by simp [h])]; rfl
theorem allK_le (ds : List DoorE) : (allK ds).length ≤ ds.length:=by
 unfold allK;rw [List.length_map]; exact List.length_filter_le _ _
set_option maxHeartbeats 4000000 in
set_option maxRecDepth 100000 in
theorem tricks_any (lo cd g : Nat) (A : Option Addr) (rs : List RoomE) (D : Option Addr) (ds : List DoorE) (w : World) (hA : MapW w lo A rs D ds) (hg1 : w.cell? ⟨g,1,none⟩ = some (.slice D ds.length cd)) :
  Calls Tryz.prog 134 #[.pointer (some ⟨g,0,none⟩)] w fun e w' => ∃ A' c',e = .returned (.slice A' (onceT (allK ds)).length c') ∧ w'.ownsRow w.heap.size 9 1 (.slice A' (onceT (allK ds)).length c') (onceT (allK ds)).length (strs (onceT (allK ds))) ∧ Below w.heap.size w w':=by
 have hdl:=hA.s.dl;have HA:=Lib.hid hA;have HSL:=Lib.hid (sortT_len (allK ds));have HOO:=Lib.hid (onceT_eq (allK ds));have HAL2 : Hid ((allK ds).length ≤ 1000000000):=Lib.hid (by have:=allK_le ds; omega);clear hA
 go_enter Tryz.func134,Tryz.ntmps134
 go_wp2_with fail;clear hg1
 obtain ⟨wb,hwb⟩ : ∃ wb,wb = w:=⟨_,rfl⟩
 have hb0 : Below w.heap.size w wb:=by rw [hwb]; exact Below.refl _ _
 rw [← hwb]
 obtain ⟨B0,hB0⟩ : ∃ B0,B0 = w.heap.size:=⟨_,rfl⟩
 have hB1 : B0 ≤ wb.heap.size:=by rw [hB0,hwb]; exact Nat.le_refl _
 have HB0 : Hid (w.heap.size ≤ B0):=Lib.hid (by omega);clear hB0 hwb
 go_loopw [3,11] (fun v i wr => ∃ (k : Nat) (A' : Option Addr) (c' : Nat),k ≤ ds.length ∧ i = .int .i64 k ∧ v = .slice A' (allK (ds.take k)).length c' ∧ wr.ownsRow B0 9 1 (.slice A' (allK (ds.take k)).length c') (allK (ds.take k)).length (strs (allK (ds.take k))) ∧ Below B0 wb wr) (fun _ i _ => ds.length - (intOf i).toNat)
 case atStart => exact ⟨0,none,0,Nat.zero_le _,rfl,rfl,World.ownsRow_nil _ _ _ _,Below.refl _ _⟩
 case round =>
  obtain ⟨k,A',c',hk,rfl,rfl,hown,hbw⟩:=hrel;have hsz:=hbw.size;have hbb : Below w.heap.size w wr:=hb0.trans (hbw.mono HB0.out)
  by_cases hkn : k < ds.length
  ·obtain ⟨b,off,rfl,hbs,hcell⟩:=(HA.out.below hbb).door (by omega)
   obtain ⟨y0,y1,y2,y3,y4,y5,y6⟩:=hcell k hkn;have HT:=Lib.hid (allK_take ds hkn)
   have hac : (allK (ds.take k)).length ≤ 1000:=by have:=allK_le (ds.take k); rw [List.length_take] at this; omega
   clear hcell;generalize ds[k] = d at *;generalize allK (ds.take k) = acc at *;simp only [encStr] at y0 y1 y2 y6;have hown1:=hown.alloc (.cells #[.string ⟨d.key.toArray⟩,.string ⟨d.src.toArray⟩,.string ⟨d.dst.toArray⟩,.int .i64 d.time,.slice d.N d.needs.length d.nc,.slice d.T d.takes.length d.tc,.string ⟨d.trick.toArray⟩] 137);have hbw1 : Below B0 wb (wr.alloc (.cells #[.string ⟨d.key.toArray⟩,.string ⟨d.src.toArray⟩,.string ⟨d.dst.toArray⟩,.int .i64 d.time,.slice d.N d.needs.length d.nc,.slice d.T d.takes.length d.tc,.string ⟨d.trick.toArray⟩] 137)):=hbw.alloc (by omega) _;have hbk:=Blk.new wr 137 #[.string ⟨d.key.toArray⟩,.string ⟨d.src.toArray⟩,.string ⟨d.dst.toArray⟩,.int .i64 d.time,.slice d.N d.needs.length d.nc,.slice d.T d.takes.length d.tc,.string ⟨d.trick.toArray⟩];go_upto_region 5 with (fail);generalize wr.alloc (.cells #[.string ⟨d.key.toArray⟩,.string ⟨d.src.toArray⟩,.string ⟨d.dst.toArray⟩,.int .i64 d.time,.slice d.N d.needs.length d.nc,.slice d.T d.takes.length d.tc,.string ⟨d.trick.toArray⟩] 137) = wa at *;have hkl:=hbk.lt;generalize wr.heap.size = kb at *;have hsa:=hbw1.size;have z6:=hbk.cell 6;simp only [Q0,Q2,Q1] at z6;clear hbw hown y0 y1 y2 y3 y4 y5 y6 hbb hbk
   by_cases ht : d.trick = []
   ·have dt : d.trick.isEmpty = true:=by rw [ht]; rfl
    have dt2 : (d.trick == []) = true:=by rw [ht]; rfl
    have HT2 : Hid (allK (ds.take (k + 1)) = acc):=Lib.hid (by rw [HT.out,if_pos ht,List.append_nil]);clear ht;go_wp2_with fail;go_roundw
    case rel => exact ⟨k + 1,A',c',by omega,by go_num,by rw [HT2.out],by rw [HT2.out]; exact hown1,hbw1⟩
    case measure => simp [intOf]; omega
   ·have dt : d.trick.isEmpty = false:=by cases h : d.trick with | nil => exact absurd h ht | cons a l => rfl
    have dt2 : (d.trick == []) = false:=beq_eq_false_iff_ne.2 ht;have HT2 : Hid (allK (ds.take (k + 1)) = acc ++ [d.trick]):=Lib.hid (by rw [HT.out,if_neg ht]);clear ht
    have hBa : B0 ≤ wa.heap.size:=by omega
    go_wp2_with (at_builtin; go_must (refine wpList_app (lo:=B0) (base:=B0) (n:=acc.length) (xs:=strs acc) _ _ rfl _ _ ty_strs rfl (by repeat (first | exact hown1 | refine World.ownsRow.alloc ?_ _ | refine own_drewN ?_ _ | refine World.ownsRow.drew ?_)) rfl (by first | exact row_new' _ (by first | rfl | simp) (by first | omega | (simp; omega)) rfl | exact row_newN _ _ (by first | rfl | simp) (by first | omega | (simp; omega)) rfl | exact row_newD _ (by first | rfl | simp) (by first | omega | (simp; omega)) rfl) rfl rfl (by first | omega | decide) (by first | omega | decide) (by first | omega | (simp; omega)) ?_))
    intro A5 c5 w5 hown5 hg5 _;have hb5 : Below B0 wb w5:=below_app hown1 (hbw1.alloc hBa _) hg5 (Nat.le_refl _) (by simp; omega)
    have hst : strs acc ++ [Value.string ⟨d.trick.toArray⟩] = strs (acc ++ [d.trick]):=by simp [strs,encStr]
    rw [hst,show acc.length + 1 = (acc ++ [d.trick]).length by simp] at hown5;rw [show acc.length + 1 = (acc ++ [d.trick]).length by simp]
    obtain ⟨acc3,h3⟩ : ∃ acc3,acc3 = acc ++ [d.trick]:=⟨_,rfl⟩
    rw [← h3] at hown5 ⊢;have H3:=Lib.hid h3;clear h3 hst;have HO5:=Lib.hid hown5;clear hown5 hg5 hown1 z6;go_wp2_with fail;go_roundw
    case rel => exact ⟨k + 1,A5,c5,by omega,by go_num,by rw [HT2.out,← H3.out],by rw [HT2.out,← H3.out]; exact HO5.out,hb5⟩
    case measure => simp [intOf]; omega
  ·have hke : k = ds.length:=by omega
   subst hke;rw [List.take_length] at hown ⊢;go_wp2_with fail;refine (sortT_any A' c' B0 (allK ds) _ hown HAL2.out).mono ?_;rintro e w8 ⟨rfl,ho8,hg8⟩;have hb8 : Below w.heap.size w w8:=hbb.grown hg8 hbb.size (fun q hq => Nat.le_trans HB0.out (hown.lt q hq).1);go_wp2_with fail
   have ho8' : w8.ownsRow B0 9 1 (.slice A' (sortT (allK ds)).length c') (sortT (allK ds)).length (strs (sortT (allK ds))):=by rw [HSL.out]; exact ho8
   have hcm:=compactT_any A' c' B0 (sortT (allK ds)) _ ho8' (by rw [HSL.out]; exact HAL2.out);rw [HSL.out,← HOO.out] at hcm;refine hcm.mono ?_;rintro e w9 ⟨rfl,ho9,hg9⟩;have hb9 : Below w.heap.size w w9:=hb8.grown hg9 hb8.size (fun q hq => Nat.le_trans HB0.out (ho8.lt q hq).1);have HO9:=Lib.hid (own_down9 ho9 HB0.out);clear ho9 ho8 ho8' hcm hown hg8 hg9;go_wp2_with fail;go_ret;exact ⟨A',c',rfl,HO9.out,hb9⟩
end Go.Proofs.YtkchacgkjdeiaaaGreatDoor
/- The walk of CheckMap. -/
namespace Go.Proofs.YtkchacgkjdeiaaaGreatDoor
open Go.RowKit

structure McC (w W : World) (g lo : Nat) (A : Option Addr) (rs : List RoomE) (ca : Nat) (D : Option Addr) (ds : List DoorE) (cd : Nat) (st gl : List UInt8) : Prop where
  m : MapW W lo A rs D ds
  bl : Blk W g 140 #[.slice A rs.length ca, .slice D ds.length cd, .string ⟨st.toArray⟩, .string ⟨gl.toArray⟩]
  b : Below w.heap.size w W
section
variable {w W W' : World} {g lo : Nat} {A : Option Addr} {rs : List RoomE} {ca : Nat} {D : Option Addr} {ds : List DoorE} {cd : Nat} {st gl : List UInt8}
theorem McC.below (h : McC w W g lo A rs ca D ds cd st gl) (hb : Below W.heap.size W W') : McC w W' g lo A rs ca D ds cd st gl:=⟨h.m.below hb,h.bl.below hb,below_up h.b hb⟩
theorem McC.cells (h : McC w W g lo A rs ca D ds cd st gl) : W.cell? ⟨g,0,none⟩ = some (.slice A rs.length ca) ∧ W.cell? ⟨g,1,none⟩ = some (.slice D ds.length cd) ∧ W.cell? ⟨g,2,none⟩ = some (.string ⟨st.toArray⟩) ∧ W.cell? ⟨g,3,none⟩ = some (.string ⟨gl.toArray⟩):=⟨h.bl.cell 0,h.bl.cell 1,h.bl.cell 2,h.bl.cell 3⟩
end
set_option maxHeartbeats 4000000 in
set_option maxRecDepth 100000 in
theorem checkMap_any (lo ca cd : Nat) (A : Option Addr) (rs : List RoomE) (D : Option Addr) (ds : List DoorE) (st gl : List UInt8) (w : World) (hA : MapW w lo A rs D ds) :
  Calls Tryz.prog 133 #[mapV A rs ca D ds cd st gl] w fun e w' => e = .returned (.int .i64 (mapE rs ds st gl)) ∧ Below w.heap.size w w':=by
 have hC : McC w (w.alloc (.cells #[.slice A rs.length ca,.slice D ds.length cd,.string ⟨st.toArray⟩,.string ⟨gl.toArray⟩] 140)) w.heap.size lo A rs ca D ds cd st gl:=⟨hA.alloc _,Blk.new _ _ _,(Below.refl _ w).alloc (Nat.le_refl _) _⟩
 have HM : Hid (mapE rs ds st gl = if roomsE rs ≠ 0 then roomsE rs else if doorsE rs ds ≠ 0 then doorsE rs ds else if !hasR rs st || !hasR rs gl then 8 else if 10 < (onceT (allT rs ds)).length ∨ 12 < (onceT (allK ds)).length then 2 else 0):=Lib.hid rfl;clear hA;unfold mapV;simp only [encStr]
 go_enter Tryz.func133,Tryz.ntmps133
 go_wp2_with fail;generalize w.alloc (.cells #[.slice A rs.length ca,.slice D ds.length cd,.string ⟨st.toArray⟩,.string ⟨gl.toArray⟩] 140) = w0 at *;refine (roomsFault_any lo ca A rs D ds _ hC.m).mono ?_;rintro e w1 ⟨rfl,hb1⟩;replace hC:=hC.below hb1;clear hb1
 obtain ⟨re,hre⟩ : ∃ re,re = roomsE rs:=⟨_,rfl⟩
 rw [← hre] at HM ⊢;have HRE:=Lib.hid hre;clear hre
 by_cases h0 : re = 0
 ·have HUP:=Lib.hid (roomsE_up (by rw [← HRE.out]; exact h0))
  have HM2 : Hid (mapE rs ds st gl = if doorsE rs ds ≠ 0 then doorsE rs ds else if !hasR rs st || !hasR rs gl then 8 else if 10 < (onceT (allT rs ds)).length ∨ 12 < (onceT (allK ds)).length then 2 else 0):=Lib.hid (by rw [HM.out,if_neg (fun h => h h0)])
  have d0 : (re != 0) = false:=by rw [h0]; rfl
  clear h0 HM HRE;go_wp2_with fail;clear d0;refine (doorsFault_any lo ca cd w.heap.size A rs D ds _ hC.m HUP.out hC.cells.1 hC.cells.2.1).mono ?_;rintro e w2 ⟨rfl,hb2⟩;replace hC:=hC.below hb2;clear hb2
  obtain ⟨de,hde⟩ : ∃ de,de = doorsE rs ds:=⟨_,rfl⟩
  rw [← hde] at HM2 ⊢;clear hde
  by_cases h0 : de = 0
  ·obtain ⟨rb,hrb⟩ : ∃ rb : Bool,rb = (!hasR rs st || !hasR rs gl):=⟨_,rfl⟩
   have HRB:=Lib.hid hrb;have HM3 : Hid (mapE rs ds st gl = if rb then 8 else if 10 < (onceT (allT rs ds)).length ∨ 12 < (onceT (allK ds)).length then 2 else 0):=Lib.hid (by rw [HM2.out,if_neg (fun h => h h0),hrb])
   have d0 : (de != 0) = false:=by rw [h0]; rfl
   clear h0 HM2 hrb;go_upto_region 7 with (fail);clear d0
   go_cut [15] from 16 to 25 (fun v wx => v = .bool rb ∧ McC w wx w.heap.size lo A rs ca D ds cd st gl)
   case first =>
    obtain ⟨-,-,z2,z3⟩:=hC.cells;go_wp2_with fail;refine (room_any lo ca w.heap.size A rs D ds st _ hC.m HUP.out hC.cells.1).mono ?_;rintro e w3 ⟨rfl,hb3⟩;replace hC:=hC.below hb3;clear z2 z3 hb3
    obtain ⟨x1,hx1⟩ : ∃ x1,x1 = keyI (rs.map RoomE.key) st:=⟨_,rfl⟩
    have h1:=hasR_keyI rs st;rw [← hx1] at h1 ⊢;clear hx1;obtain ⟨-,-,z2,z3⟩:=hC.cells
    cases hs1 : hasR rs st with
    | false =>
     have d1 : decide (x1 < 0) = true:=decide_eq_true (h1.2 hs1);have HV : Hid (rb = true):=Lib.hid (by rw [HRB.out,hs1]; rfl);clear h1 hs1;go_wp2_with fail;go_meet;exact ⟨by rw [HV.out],hC⟩
    | true =>
     have d1 : decide (x1 < 0) = false:=decide_eq_false (fun h => by have:=h1.1 h; rw [hs1] at this; cases this);clear h1;go_wp2_with fail;refine (room_any lo ca w.heap.size A rs D ds gl _ hC.m HUP.out hC.cells.1).mono ?_;rintro e w4 ⟨rfl,hb4⟩;replace hC:=hC.below hb4;clear z2 z3 hb4
     obtain ⟨x2,hx2⟩ : ∃ x2,x2 = keyI (rs.map RoomE.key) gl:=⟨_,rfl⟩
     have h2:=hasR_keyI rs gl;rw [← hx2] at h2 ⊢;clear hx2
     have HV : Hid (decide (x2 < 0) = rb):=Lib.hid (by
      rw [HRB.out,hs1]
      cases hs2 : hasR rs gl with
      | false => simp [h2.2 hs2]
      | true => rw [decide_eq_false (fun h => by have:=h2.1 h; rw [hs2] at this; cases this)]; rfl)
     obtain ⟨x3,hx3⟩ : ∃ x3,x3 = decide (x2 < 0):=⟨_,rfl⟩
     have HX3:=Lib.hid hx3;have hx4 : decide (x2 < 0) = x3:=hx3.symm;clear h2 hs1 hx3;go_wp2_with fail;go_meet;exact ⟨by rw [← HV.out,HX3.out],hC⟩
   case rest =>
   obtain ⟨rfl,hC⟩:=hcut
   cases rb with
   | true =>
    have HV : Hid (mapE rs ds st gl = 8):=Lib.hid (by rw [HM3.out]; rfl);go_wp2_with fail;go_ret;exact ⟨ret_int' HV.out.symm,hC.b⟩
   | false =>
    have HM4 : Hid (mapE rs ds st gl = if 10 < (onceT (allT rs ds)).length ∨ 12 < (onceT (allK ds)).length then 2 else 0):=Lib.hid (by rw [HM3.out,if_neg (by decide)]);clear HM3 HRB;go_wp2_with fail;refine (things_any lo ca cd w.heap.size A rs D ds _ hC.m hC.cells.1 hC.cells.2.1).mono ?_;rintro e w5 ⟨A5,c5,rfl,-,hb5⟩;replace hC:=hC.below hb5;clear hb5;generalize (onceT (allT rs ds)).length = n1 at *
    by_cases h1 : 10 < n1
    ·have HV : Hid (mapE rs ds st gl = 2):=Lib.hid (by rw [HM4.out,if_pos (.inl h1)])
     go_wp2_with fail;go_ret;exact ⟨ret_int' HV.out.symm,hC.b⟩
    ·go_wp2_with fail
     refine (tricks_any lo cd w.heap.size A rs D ds _ hC.m hC.cells.2.1).mono ?_;rintro e w6 ⟨A6,c6,rfl,-,hb6⟩;replace hC:=hC.below hb6;clear hb6;generalize (onceT (allK ds)).length = n2 at *
     by_cases h2 : 12 < n2
     ·have HV : Hid (mapE rs ds st gl = 2):=Lib.hid (by rw [HM4.out,if_pos (.inr h2)])
      go_wp2_with fail;go_ret;exact ⟨ret_int' HV.out.symm,hC.b⟩
     ·have HV : Hid (mapE rs ds st gl = 0):=Lib.hid (by rw [HM4.out,if_neg (by omega)])
      go_wp2_with fail;go_ret;exact ⟨ret_int' HV.out.symm,hC.b⟩
  ·have HV : Hid (mapE rs ds st gl = de):=Lib.hid (by rw [HM2.out,if_pos h0])
   have d0 : (de != 0) = true:=bne_iff_ne.2 h0;clear h0;go_wp2_with fail;go_ret;exact ⟨ret_int' HV.out.symm,hC.b⟩
 ·have HV : Hid (mapE rs ds st gl = re):=Lib.hid (by rw [HM.out,if_pos h0])
  have d0 : (re != 0) = true:=bne_iff_ne.2 h0;clear h0;go_wp2_with fail;go_ret;exact ⟨ret_int' HV.out.symm,hC.b⟩
end Go.Proofs.YtkchacgkjdeiaaaGreatDoor
/- The walks of CheckTricks and Tricks. -/
namespace Go.Proofs.YtkchacgkjdeiaaaGreatDoor
open Go.RowKit

def trickK (K l : List (List UInt8)) (i : Nat) : Int:=if ¬ l.getD i [] ∈ K then 5 else if 0 < i ∧ ¬ (l.getD (i - 1) [] < l.getD i []) then 7 else 0
theorem getDS {l : List (List UInt8)} {k : Nat} (hk : k < l.length) : l.getD k [] = l[k]:=by
 rw [List.getD_eq_getElem?_getD,List.getElem?_eq_getElem hk]; rfl
theorem trickK_no {K l : List (List UInt8)} {k : Nat} (hk : k < l.length) (h : ¬ l[k] ∈ K) : trickK K l k = 5:=by
 unfold trickK;rw [getDS hk,if_pos h]
theorem trickK_zero {K l : List (List UInt8)} {k : Nat} (h0 : ¬ 0 < k) (hk : k < l.length) (h : l[k] ∈ K) : trickK K l k = 0:=by
 unfold trickK;rw [getDS hk,if_neg (fun e => e h),if_neg (fun e => h0 e.1)]
theorem trickK_pos {K l : List (List UInt8)} {k : Nat} (h0 : 0 < k) (hk : k < l.length) (h : l[k] ∈ K) : trickK K l k = if l[k - 1] < l[k] then 0 else 7:=by
 unfold trickK;rw [getDS hk,getDS (show k - 1 < l.length by omega),if_neg (fun e => e h)]
 by_cases hc : l[k - 1] < l[k]
 ·rw [if_neg (fun e => e.2 hc),if_pos hc]
 ·rw [if_pos ⟨h0,hc⟩,if_neg hc]
theorem row_down0 {w : World} {lo size : Nat} {A : Option Addr} {n : Nat} {cs : List Value} (h : Row w lo size A n cs) : Row w 0 size A n cs :=
 ⟨h.1,fun hn => let ⟨b,off,e,_,h2,h3⟩:=h.2 hn; ⟨b,off,e,Nat.zero_le _,h2,h3⟩⟩
set_option maxHeartbeats 4000000 in
set_option maxRecDepth 100000 in
theorem checkTricks_any (lo ca cd : Nat) (A : Option Addr) (rs : List RoomE) (D : Option Addr) (ds : List DoorE) (st gl : List UInt8) (lo2 c2 : Nat) (B : Option Addr) (l : List (List UInt8)) (w : World) (hA : MapW w lo A rs D ds) (hr : Row w lo2 1 B l.length (strs l)) (hl : l.length ≤ 1000000000) :
  Calls Tryz.prog 98 #[mapV A rs ca D ds cd st gl,.slice B l.length c2] w fun e w' => e = .returned (.int .i64 (tricksE rs ds st gl l)) ∧ Below w.heap.size w w':=by
 have hC : McC w (w.alloc (.cells #[.slice A rs.length ca,.slice D ds.length cd,.string ⟨st.toArray⟩,.string ⟨gl.toArray⟩] 140)) w.heap.size lo A rs ca D ds cd st gl:=⟨hA.alloc _,Blk.new _ _ _,(Below.refl _ w).alloc (Nat.le_refl _) _⟩
 have HKB : Hid ((onceT (allK ds)).length ≤ 1000000000):=Lib.hid (by have:=allK_le ds; have:=onceT_le (allK ds); have:=hA.s.dl; omega);have HTE : Hid (tricksE rs ds st gl l = if mapE rs ds st gl ≠ 0 then mapE rs ds st gl else scanF (trickK (onceT (allK ds)) l) l.length):=Lib.hid rfl;have HR:=Lib.hid hr;clear hA hr;unfold mapV;simp only [encStr]
 go_enter Tryz.func98,Tryz.ntmps98
 go_wp2_with fail;generalize w.alloc (.cells #[.slice A rs.length ca,.slice D ds.length cd,.string ⟨st.toArray⟩,.string ⟨gl.toArray⟩] 140) = w0 at *;have hcm:=checkMap_any lo ca cd A rs D ds st gl w0 hC.m;unfold mapV at hcm;simp only [encStr] at hcm;refine hcm.mono ?_;rintro e w1 ⟨rfl,hb1⟩;replace hC:=hC.below hb1;clear hb1 hcm
 obtain ⟨me,hme⟩ : ∃ me,me = mapE rs ds st gl:=⟨_,rfl⟩
 rw [← hme] at HTE ⊢;clear hme
 by_cases h0 : me = 0
 ·have HT2 : Hid (tricksE rs ds st gl l = scanF (trickK (onceT (allK ds)) l) l.length):=Lib.hid (by rw [HTE.out,if_neg (fun h => h h0)])
  have d0 : (me != 0) = false:=by rw [h0]; rfl
  clear h0 HTE;go_wp2_with fail;refine (tricks_any lo cd w.heap.size A rs D ds _ hC.m hC.cells.2.1).mono ?_;rintro e w2 ⟨A2,k2,rfl,ho2,hb2⟩;replace hC:=hC.below hb2;have HK:=Lib.hid (row_down0 (Row.of_own ho2));have hbw2:=hC.b;clear hb2 ho2 hC d0;generalize onceT (allK ds) = K at *;go_wp2_with fail
  go_loopw [17] (fun i wr => ∃ k : Nat,k ≤ l.length ∧ i = .int .i64 k ∧ Hid (∀ j,j < k → trickK K l j = 0) ∧ Below w2.heap.size w2 wr) (fun i _ => l.length - (intOf i).toNat)
  case atStart => exact ⟨0,Nat.zero_le _,rfl,Lib.hid (fun j hj => by omega),Below.refl _ _⟩
  case round =>
   obtain ⟨k,hk,rfl,HZ,hbr⟩:=hrel;have hbw:=below_up hbw2 hbr;have HBW:=Lib.hid hbw
   by_cases hkn : k < l.length
   ·obtain ⟨b,off,rfl,hbs,hcell⟩:=strs_at (HR.out.below hbw) hkn
    have c0:=hcell k hkn;have HNO:=Lib.hid (trickK_no (K:=K) hkn);have HZE : Hid (¬ 0 < k → l[k] ∈ K → trickK K l k = 0):=Lib.hid (fun h0 => trickK_zero h0 hkn);have HPO : Hid (∀ h0 : 0 < k,l[k] ∈ K → trickK K l k = if l[k - 1] < l[k] then 0 else 7):=Lib.hid (fun h0 => trickK_pos h0 hkn);have HLQ : Hid (∀ h0 : 0 < k,(Op.bytesLess l[k] l[k - 1] || l[k] == l[k - 1]) = !decide (l[k - 1] < l[k])):=Lib.hid (fun h0 => leq_lt _ _);have HCE:=Lib.hid hcell;have HKN:=Lib.hid hkn;have hcon:=containsS_any A2 k2 0 K l[k] wr (HK.out.below hbr) HKB.out;clear hcell hbw;generalize hx : l[k] = x at *;clear hx;unfold encStr at c0 hcon
    by_cases hin : x ∈ K
    ·rw [decide_eq_true hin] at hcon
     by_cases hk0 : k = 0
     ·have d3 : ¬ 0 < k:=by omega
      have HN:=Lib.hid (step_all HZ.out (HZE.out d3 hin));clear hin hk0;go_wp2_with fail;refine hcon.mono ?_;rintro e w3 ⟨rfl,rfl⟩;clear hcon;go_wp2_with fail;go_roundw
      case rel => exact ⟨k + 1,by omega,by go_num,HN,hbr⟩
      case measure => simp [intOf]; omega
     ·have d3 : 0 < k:=by omega
      have c1:=HCE.out (k - 1) (by omega)
      have wk : IntKind.i64.wrap ((k : Int) - 1) = ((k - 1 : Nat) : Int):=by rw [IntWalk.i64_in _ ⟨by omega,by omega⟩]; omega
      have HRP:=Lib.hid (HPO.out d3 hin);have hq:=HLQ.out d3;generalize l[k - 1] = y at *;unfold encStr at c1
      obtain ⟨p1,h1⟩ : ∃ p1,Op.bytesLess x y = p1:=⟨_,rfl⟩
      obtain ⟨p2,h2⟩ : ∃ p2,(x == y) = p2:=⟨_,rfl⟩
      rw [h1,h2] at hq;clear hin hk0
      by_cases hlt : y < x
      ·have hp : p1 = false ∧ p2 = false:=by
        rw [decide_eq_true hlt] at hq
        cases p1 <;> cases p2 <;> simp at hq ⊢
       obtain ⟨rfl,rfl⟩:=hp;have HN:=Lib.hid (step_all HZ.out (by rw [HRP.out,if_pos hlt]));clear hq hlt;go_wp2_with fail;refine hcon.mono ?_;rintro e w3 ⟨rfl,rfl⟩;clear hcon;go_wp2_with fail;go_roundw
       case rel => exact ⟨k + 1,by omega,by go_num,HN,hbr⟩
       case measure => simp [intOf]; omega
      ·have HV : Hid (tricksE rs ds st gl l = 7):=Lib.hid (by
        have h5:=HRP.out;rw [if_neg hlt] at h5
        rw [HT2.out,scanF_hit HKN.out HZ.out (by rw [h5]; decide),h5])
       rw [decide_eq_false hlt] at hq
       have hp : p1 = true ∨ p1 = false ∧ p2 = true:=by
        cases p1 <;> cases p2 <;> simp at hq ⊢
       clear hq hlt;rcases hp with rfl | ⟨rfl,rfl⟩
       all_goals
        go_wp2_with fail;refine hcon.mono ?_;rintro e w3 ⟨rfl,rfl⟩;clear hcon;go_wp2_with fail;go_ret;exact ⟨ret_int' HV.out.symm,HBW.out⟩
    ·rw [decide_eq_false hin] at hcon
     have HV : Hid (tricksE rs ds st gl l = 5):=Lib.hid (by
      have h5:=HNO.out hin
      rw [HT2.out,scanF_hit HKN.out HZ.out (by rw [h5]; decide),h5])
     clear hin;go_wp2_with fail;refine hcon.mono ?_;rintro e w3 ⟨rfl,rfl⟩;clear hcon;go_wp2_with fail;go_ret;exact ⟨ret_int' HV.out.symm,HBW.out⟩
   ·have hke : k = l.length:=by omega
    subst hke;have HV : Hid (tricksE rs ds st gl l = 0):=Lib.hid (by rw [HT2.out]; exact scanF_none HZ.out);clear hbw;go_wp2_with fail;go_ret;exact ⟨ret_int' HV.out.symm,HBW.out⟩
 ·have HV : Hid (tricksE rs ds st gl l = me):=Lib.hid (by rw [HTE.out,if_pos h0])
  have d0 : (me != 0) = true:=bne_iff_ne.2 h0;clear h0;go_wp2_with fail;go_ret;exact ⟨ret_int' HV.out.symm,hC.b⟩
end Go.Proofs.YtkchacgkjdeiaaaGreatDoor
/- The walks of the stream's thingList, and of Itoa at one digit. -/
namespace Go.Proofs.YtkchacgkjdeiaaaGreatDoor
open Go.RowKit Go.Sort

def thingsL : List (List UInt8):=[[103,117,110],[107,101,121],[109,97,112]]
end Go.Proofs.YtkchacgkjdeiaaaGreatDoor
/- The world of a map in memory, and what is read of it: bits. -/
namespace Go.Proofs.YtkchacgkjdeiaaaGreatDoor
open Go.RowKit

theorem nanS_any (x : List UInt8) (w : World) : Calls Tryz.prog 215 #[.string ⟨x.toArray⟩] w fun e w' => e = .returned (.bool false) ∧ w = w':=by
 have h : (x == x) = true:=by simp
 go_enter Tryz.func215,Tryz.ntmps215
 go_wp2_with fail;go_ret;exact ⟨rfl,rfl⟩
theorem nanC_any (x : List UInt8) (w : World) : Calls Tryz.prog 187 #[.string ⟨x.toArray⟩] w fun e w' => e = .returned (.bool false) ∧ w = w':=by
 have h : (x == x) = true:=by simp
 go_enter Tryz.func187,Tryz.ntmps187
 go_wp2_with fail;go_ret;exact ⟨rfl,rfl⟩
theorem lessS_any (x y : List UInt8) (w : World) : Calls Tryz.prog 154 #[.string ⟨x.toArray⟩,.string ⟨y.toArray⟩] w fun e w' => e = .returned (.bool (decide (x < y))) ∧ w = w':=by
 have h:=bytesLess_eq x y
 obtain ⟨p,hp⟩ : ∃ p,decide (x < y) = p:=⟨_,rfl⟩
 rw [hp] at h ⊢;clear hp
 go_enter Tryz.func154,Tryz.ntmps154
 go_wp2_with fail;refine (nanC_any x _).mono ?_;rintro e w1 ⟨rfl,rfl⟩;go_wp2_with fail;go_ret;exact ⟨rfl,rfl⟩
def FsPost (w : World) (l : List (List UInt8)) (key : List UInt8) (e : Ending) (w' : World) : Prop:=∃ (r : Nat) (b : Bool),e = .returned (.tuple #[.int .i64 r,.bool b]) ∧ FoundS l key r b ∧ w = w'
set_option maxHeartbeats 1000000 in
theorem searchS_any (lo c : Nat) (A : Option Addr) (l : List (List UInt8)) (key : List UInt8) (w : World) (hr : Row w lo 1 A l.length (strs l)) (hup : l.Pairwise (· < ·)) (hl : l.length ≤ 1000000000) :
  Calls Tryz.prog 201 #[.slice A l.length c,.string ⟨key.toArray⟩] w (FsPost w l key):=by
 have HM : Hid (∀ i j (hj : j < l.length) (hij : i < j),l[i]'(by omega) < l[j]):=Lib.hid (fun i j hj hij => List.pairwise_iff_getElem.1 hup i j (by omega) hj hij);clear hup
 go_enter Tryz.func201,Tryz.ntmps201
 go_wp2_with fail
 go_loop [7,8] (fun i j => ∃ (a b : Nat),a ≤ b ∧ b ≤ l.length ∧ i = .int .i64 a ∧ j = .int .i64 b ∧ Hid (∀ k (h : k < l.length),k < a → l[k] < key) ∧ Hid (∀ k (h : k < l.length),b ≤ k → ¬ l[k] < key)) (fun i j => (intOf j).toNat - (intOf i).toNat)
 case atStart => exact ⟨0,l.length,Nat.zero_le _,Nat.le_refl _,rfl,rfl,Lib.hid (fun k h h2 => absurd h2 (Nat.not_lt_zero _)),Lib.hid (fun k h h2 => by omega)⟩
 case round =>
  obtain ⟨a,b,hab,hbl,rfl,rfl,HL,HR⟩:=hrel
  by_cases hlt : a < b
  ·have hma : a ≤ (a + b) / 2:=by omega
   have hmb : (a + b) / 2 < b:=by omega
   have hm0 : (a + b) / 2 < l.length:=by omega
   have hw1 : IntKind.i64.wrap ((a : Int) + (b : Int)) = (a : Int) + (b : Int):=IntWalk.i64_in _ (by omega);obtain ⟨bb,off,rfl,hbs,hcell⟩:=strs_at hr (show 0 < l.length by omega)
   have HLT : Hid (l[(a + b) / 2] < key → ∀ k (h : k < l.length),k < (a + b) / 2 + 1 → l[k] < key):=Lib.hid (fun hh k h hk => by
    rcases Nat.lt_or_ge k ((a + b) / 2) with h1 | h1
    ·exact ltS_trans (HM.out k ((a + b) / 2) hm0 h1) hh
    ·have : k = (a + b) / 2:=by omega
     subst this; exact hh)
   have HGE : Hid (¬ l[(a + b) / 2] < key → ∀ k (h : k < l.length),(a + b) / 2 ≤ k → ¬ l[k] < key):=Lib.hid (fun hh k h hk => by
    rcases Nat.lt_or_ge ((a + b) / 2) k with h1 | h1
    ·exact fun h2 => hh (ltS_trans (HM.out ((a + b) / 2) k h h1) h2)
    ·have : k = (a + b) / 2:=by omega
     subst this; exact hh)
   have y0:=hcell ((a + b) / 2) hm0;clear hcell;generalize l[(a + b) / 2] = x at *;simp only [encStr] at y0;go_wp2_with fail;refine (lessS_any x key _).mono ?_;rintro e w1 ⟨rfl,rfl⟩;clear y0
   by_cases hlt2 : x < key
   ·have HN:=Lib.hid (HLT.out hlt2)
    have hC : decide (x < key) = true:=decide_eq_true hlt2;rw [hC];clear HLT HGE hlt2 hC;go_wp2_with fail;go_round
    case rel => exact ⟨(a + b) / 2 + 1,b,by omega,hbl,by go_num,rfl,HN,HR⟩
    case measure => simp [intOf]; omega
   ·have HN:=Lib.hid (HGE.out hlt2)
    have hC : decide (x < key) = false:=decide_eq_false hlt2;rw [hC];clear HLT HGE hlt2 hC;go_wp2_with fail;go_round
    case rel => exact ⟨a,(a + b) / 2,hma,by omega,rfl,by go_num,HL,HN⟩
    case measure => simp [intOf]; omega
  ·have hab' : a = b:=by omega
   subst hab';clear hab
   by_cases hal : a < l.length
   ·obtain ⟨bb,off,rfl,hbs,hcell⟩:=strs_at hr (show 0 < l.length by omega)
    have HY : Hid (l[a] = key → FoundS l key a true):=Lib.hid (fun h => ⟨by omega,fun _ => ⟨hal,h⟩,fun h => by cases h⟩)
    have HNO : Hid (¬ l[a] = key → FoundS l key a false):=Lib.hid (fun h => ⟨by omega,fun h => (by cases h),fun _ hi => by
     obtain ⟨i,hi',he'⟩:=List.getElem_of_mem hi;rcases Nat.lt_trichotomy i a with h1 | h1 | h1
     ·have:=HL.out i hi' h1; rw [he'] at this; exact ltS_irr _ this
     ·subst h1; exact h he'
     ·have h2:=HR.out a hal (Nat.le_refl _)
      have h3:=HM.out a i hi' h1;rw [he'] at h3
      exact h2 h3⟩)
    have y0:=hcell a hal;clear hcell;generalize l[a] = x at *;simp only [encStr] at y0
    by_cases he : x = key
    ·have HF:=Lib.hid (HY.out he)
     have hC : (x == key) = true:=beq_iff_eq.2 he;clear HY HNO he;go_wp2_with fail;go_ret2;exact ⟨a,true,rfl,HF.out,rfl⟩
    ·have HF:=Lib.hid (HNO.out he)
     have hC : (x == key) = false:=beq_eq_false_iff_ne.2 he;clear HY HNO he;go_wp2_with fail;refine (nanS_any x _).mono ?_;rintro e w1 ⟨rfl,rfl⟩;go_wp2_with fail;go_ret2;exact ⟨a,false,rfl,HF.out,rfl⟩
   ·have hae : a = l.length:=by omega
    have HF : Hid (FoundS l key a false):=Lib.hid ⟨by omega,fun h => (by cases h),fun _ hi => by
     obtain ⟨i,hi',he'⟩:=List.getElem_of_mem hi
     have:=HL.out i hi' (by omega); rw [he'] at this; exact ltS_irr _ this⟩
    have hnl : ¬ a < l.length:=by omega
    clear hal hae;go_wp2_with fail;go_ret2;exact ⟨a,false,rfl,HF.out,rfl⟩
theorem shl_sm (n : Nat) (hn : n < 10) : IntKind.i64.wrap ((2 : Int) ^ n) = (2 : Int) ^ n:=by
 have : ∀ k : Fin 10,IntKind.i64.wrap ((2 : Int) ^ k.val) = (2 : Int) ^ k.val:=by decide
 exact this ⟨n,hn⟩
theorem bits_add {T l : List (List UInt8)} (hT : T.length ≤ 10) {k r : Nat} (hk : k < l.length) (hr : r < T.length) (hup : T.Pairwise (· < ·)) (h : T[r] = l[k]) :
  bits .or .i64 (bitsT T (l.take k) : Int) ((2 : Int) ^ r) = (bitsT T (l.take (k + 1)) : Int):=by
 have e1 : ((2 : Int) ^ r) = ((bitsN T.length (fun i => i == r) : Nat) : Int):=by rw [bitsN_one hr]; simp
 rw [e1];unfold bitsT;rw [bits_orN (by omega)]
 congr 1
 refine bitsN_congr fun i hi => ?_
 have hm : ∀ x,x ∈ l.take (k + 1) ↔ x ∈ l.take k ∨ x = l[k]:=fun x => by rw [List.take_succ_eq_append_getElem hk,List.mem_append,List.mem_singleton]
 have h3:=hm T[i]
 have : T.getD i [] = T[i]:=by rw [List.getD_eq_getElem?_getD,List.getElem?_eq_getElem hi]; rfl
 rw [this]
 have h2 : (T[i] = l[k]) ↔ i = r:=by
  rw [← h]
  constructor
  ·intro e
   rcases Nat.lt_trichotomy i r with h1 | h1 | h1
   ·have:=List.pairwise_iff_getElem.1 hup i r hi hr h1; rw [e] at this; exact absurd this (ltS_irr _)
   ·exact h1
   ·have:=List.pairwise_iff_getElem.1 hup r i hr hi h1; rw [e] at this; exact absurd this (ltS_irr _)
  ·rintro rfl; rfl
 rw [h2] at h3;clear hm h2 this h;generalize T[i] = x at *
 by_cases a : x ∈ l.take k
 ·rw [decide_eq_true a,decide_eq_true (h3.2 (.inl a)),Bool.true_or]
 ·by_cases b : i = r
  ·rw [decide_eq_true (h3.2 (.inr b)),beq_iff_eq.2 b,Bool.or_true]
  ·rw [decide_eq_false a,beq_eq_false_iff_ne.2 b,decide_eq_false (fun e => (h3.1 e).elim a b),Bool.or_false]
set_option maxHeartbeats 1000000 in
theorem bits_any (p tc lo lo2 c : Nat) (TA A : Option Addr) (T l : List (List UInt8)) (w : World) (hp : w.cell? ⟨p,1,none⟩ = some (.slice TA T.length tc)) (hT : Row w lo 1 TA T.length (strs T)) (hup : T.Pairwise (· < ·)) (hfew : T.length ≤ 10) (hr : Row w lo2 1 A l.length (strs l)) (hl : l.length ≤ 1000000000) (hsub : ∀ x ∈ l,x ∈ T) :
  Calls Tryz.prog 171 #[.pointer (some ⟨p,0,none⟩),.slice A l.length c] w fun e w' => e = .returned (.int .i64 (bitsT T l)) ∧ w = w':=by
 have HS:=Lib.hid hsub;have HU:=Lib.hid hup;clear hsub hup
 go_enter Tryz.func171,Tryz.ntmps171
 go_wp2_with fail
 go_loop [5,12] (fun v i => ∃ k : Nat,k ≤ l.length ∧ i = .int .i64 k ∧ v = .int .i64 (bitsT T (l.take k))) (fun _ i => l.length - (intOf i).toNat)
 case atStart => exact ⟨0,Nat.zero_le _,rfl,by
  have : bitsT T (l.take 0) = 0:=bitsN_zero.2 (fun i _ => by simp)
  rw [this]; rfl⟩
 case round =>
  obtain ⟨k,hk,rfl,rfl⟩:=hrel
  by_cases hkn : k < l.length
  ·obtain ⟨b,off,rfl,hbs,hcell⟩:=strs_at hr hkn
   have y0:=hcell k hkn;have HBA : Hid (∀ r (hr : r < T.length),T[r] = l[k] → bits .or .i64 (bitsT T (l.take k) : Int) ((2 : Int) ^ r) = (bitsT T (l.take (k + 1)) : Int)):=Lib.hid (fun r h1 h2 => bits_add hfew hkn h1 HU.out h2);have HIN:=Lib.hid (HS.out l[k] (List.getElem_mem hkn));clear hcell;generalize l[k] = x at *;simp only [encStr] at y0;go_wp2_with fail;refine (searchS_any lo tc TA T x _ hT HU.out (by omega)).mono ?_;rintro e w1 ⟨r,b,rfl,hf,rfl⟩
   have hb : b = true:=by
    cases b with
    | true => rfl
    | false => exact absurd HIN.out (hf.2.2 rfl)
   subst hb;obtain ⟨hr2,hx⟩:=hf.2.1 rfl;have HN:=Lib.hid (HBA.out r hr2 hx)
   have hr10 : r < 10:=by omega
   have hw2:=shl_sm r hr10;clear hf hx y0 HBA;go_wp2_with fail;go_round
   case rel => exact ⟨k + 1,by omega,by go_num,by rw [← HN.out]⟩
   case measure => simp [intOf]; omega
  ·have hke : k = l.length:=by omega
   subst hke;rw [List.take_length];go_wp2_with fail;go_ret;exact ⟨rfl,rfl⟩
end Go.Proofs.YtkchacgkjdeiaaaGreatDoor
/- The world of a map in memory; where one begins, what is behind a door, and a point as it is told. -/
namespace Go.Proofs.YtkchacgkjdeiaaaGreatDoor
open Go.RowKit

structure WorP where
  p : Nat
  g : Nat
  TA : Option Addr
  tc : Nat
  GA : Option Addr
  gc : Nat
  DA : Option Addr
  dc : Nat
  oc : Nat
def okD (tr : List (List UInt8)) (wo : List UInt8) (d : DoorE) : Bool:=(d.key != wo) && (d.trick == [] || decide (d.trick ∈ tr))
def roomI (rs : List RoomE) (key : List UInt8) : Int:=keyI (rs.map RoomE.key) key
def outN (rs : List RoomE) (ds : List DoorE) (tr : List (List UInt8)) (wo : List UInt8) (r : Nat) : List Int:=((List.range ds.length).filter fun i => (roomI rs (ds.getD i default).src == (r : Int)) && okD tr wo (ds.getD i default)).map fun (i : Nat) => (i : Int)
def encN (rs : List RoomE) (T : List (List UInt8)) (d : DoorE) : List Value:=[.int .i64 (roomI rs d.src),.int .i64 (roomI rs d.dst),.int .i64 d.time,.int .i64 (bitsT T d.needs),.int .i64 (bitsT T d.takes)]
theorem encN_len (rs : List RoomE) (T : List (List UInt8)) (d : DoorE) : (encN rs T d).length = 5:=rfl
def givesN (rs : List RoomE) (T : List (List UInt8)) : List Int:=rs.map fun r => (bitsT T r.gives : Int)
structure WorW (W : World) (lo mp : Nat) (q : WorP) (T : List (List UInt8)) (rs : List RoomE) (ds : List DoorE) (tr : List (List UInt8)) (wo st gl : List UInt8) : Prop where
  bl : Blk W q.p 251 #[.pointer (some ⟨mp, 0, none⟩), .slice q.TA T.length q.tc, .slice q.GA rs.length q.gc, .slice q.DA ds.length q.dc, .slice (some ⟨q.g, 0, none⟩) rs.length q.oc, .int .i64 (roomI rs st), .int .i64 (roomI rs gl)]
  things : Row W lo 1 q.TA T.length (strs T)
  gives : Row W lo 1 q.GA rs.length (ints (givesN rs T))
  doors : Row W lo 5 q.DA ds.length (ds.flatMap (encN rs T))
  glt : q.g < W.heap.size
  out : ∀ r, r < rs.length → ∃ B c, W.cell? ⟨q.g, r, none⟩ = some (.slice B (outN rs ds tr wo r).length c) ∧ Row W lo 1 B (outN rs ds tr wo r).length (ints (outN rs ds tr wo r))
section
variable {W W' : World} {lo mp : Nat} {q : WorP} {T : List (List UInt8)} {rs : List RoomE} {ds : List DoorE} {tr : List (List UInt8)} {wo st gl : List UInt8}
theorem WorW.below (h : WorW W lo mp q T rs ds tr wo st gl) (hb : Below W.heap.size W W') : WorW W' lo mp q T rs ds tr wo st gl :=
 ⟨h.bl.below hb,h.things.below hb,h.gives.below hb,h.doors.below hb,Nat.lt_of_lt_of_le h.glt hb.size,fun r hr => let ⟨B,c,h1,h2⟩:=h.out r hr; ⟨B,c,(hb.cell (p:=⟨q.g,r,none⟩) h.glt).trans h1,h2.below hb⟩⟩
theorem WorW.alloc (h : WorW W lo mp q T rs ds tr wo st gl) (o : Obj) : WorW (W.alloc o) lo mp q T rs ds tr wo st gl:=h.below ((Below.refl _ _).alloc (Nat.le_refl _) o)
theorem WorW.drewN (h : WorW W lo mp q T rs ds tr wo st gl) (n : Nat) : WorW (W.drewN n) lo mp q T rs ds tr wo st gl:=h.below (below_drewN' (Below.refl _ _) n)
theorem WorW.drew (h : WorW W lo mp q T rs ds tr wo st gl) : WorW W.drew lo mp q T rs ds tr wo st gl:=h.below (below_drewN' (Below.refl _ _) 1)
theorem WorW.cells (h : WorW W lo mp q T rs ds tr wo st gl) : W.cell? ⟨q.p,0,none⟩ = some (.pointer (some ⟨mp,0,none⟩)) ∧ W.cell? ⟨q.p,1,none⟩ = some (.slice q.TA T.length q.tc) ∧ W.cell? ⟨q.p,2,none⟩ = some (.slice q.GA rs.length q.gc) ∧ W.cell? ⟨q.p,3,none⟩ = some (.slice q.DA ds.length q.dc) ∧ W.cell? ⟨q.p,4,none⟩ = some (.slice (some ⟨q.g,0,none⟩) rs.length q.oc) ∧ W.cell? ⟨q.p,5,none⟩ = some (.int .i64 (roomI rs st)) ∧ W.cell? ⟨q.p,6,none⟩ = some (.int .i64 (roomI rs gl)) :=
 ⟨h.bl.cell 0,h.bl.cell 1,h.bl.cell 2,h.bl.cell 3,h.bl.cell 4,h.bl.cell 5,h.bl.cell 6⟩
theorem WorW.give (h : WorW W lo mp q T rs ds tr wo st gl) (h0 : 0 < rs.length) : ∃ b off,q.GA = some ⟨b,off,none⟩ ∧ b < W.heap.size ∧ ∀ k (hk : k < rs.length),W.cell? ⟨b,off + k,none⟩ = some (.int .i64 (bitsT T rs[k].gives)):=by
 obtain ⟨b,off,e,_,hb,hc⟩:=h.gives.2 h0;exact ⟨b,off,e,hb,fun k hk => hc k _ (by simp [ints,givesN,hk])⟩
theorem WorW.door (h : WorW W lo mp q T rs ds tr wo st gl) (h0 : 0 < ds.length) : ∃ b off,q.DA = some ⟨b,off,none⟩ ∧ b < W.heap.size ∧ ∀ k (hk : k < ds.length),W.cell? ⟨b,off + k * 5,none⟩ = some (.int .i64 (roomI rs ds[k].src)) ∧ W.cell? ⟨b,off + k * 5 + 1,none⟩ = some (.int .i64 (roomI rs ds[k].dst)) ∧ W.cell? ⟨b,off + k * 5 + 2,none⟩ = some (.int .i64 ds[k].time) ∧ W.cell? ⟨b,off + k * 5 + 3,none⟩ = some (.int .i64 (bitsT T ds[k].needs)) ∧ W.cell? ⟨b,off + k * 5 + 4,none⟩ = some (.int .i64 (bitsT T ds[k].takes)):=by
 obtain ⟨b,off,e,_,hb,hc⟩:=h.doors.2 h0
 have g : ∀ k (hk : k < ds.length) j (hj : j < 5) u,(encN rs T ds[k])[j]? = some u → W.cell? ⟨b,off + k * 5 + j,none⟩ = some u:=fun k hk j hj u hu => by
  rw [Nat.add_assoc]; exact hc (k * 5 + j) u (by rw [flat_at (encN rs T) 5 (encN_len rs T) ds k hk j hj,hu])
 exact ⟨b,off,e,hb,fun k hk => ⟨g k hk 0 (by omega) _ rfl,g k hk 1 (by omega) _ rfl,g k hk 2 (by omega) _ rfl,g k hk 3 (by omega) _ rfl,g k hk 4 (by omega) _ rfl⟩⟩
end
def ixR (rs : List RoomE) (key : List UInt8) : Nat:=(rs.map RoomE.key).idxOf key
theorem roomI_mem {rs : List RoomE} {key : List UInt8} (h : key ∈ rs.map RoomE.key) : roomI rs key = (ixR rs key : Int):=if_pos h
theorem ixR_lt {rs : List RoomE} {key : List UInt8} (h : key ∈ rs.map RoomE.key) : ixR rs key < rs.length:=by
 have:=List.idxOf_lt_length_of_mem h
 simpa [ixR] using this
theorem ixR_key {rs : List RoomE} {key : List UInt8} (h : key ∈ rs.map RoomE.key) : (rs[ixR rs key]'(ixR_lt h)).key = key:=by
 have:=List.getElem_idxOf (List.idxOf_lt_length_of_mem h);rw [List.getElem_map] at this;exact this
theorem ixR_gives {rs : List RoomE} (hup : UpS (rs.map RoomE.key)) {key : List UInt8} (h : key ∈ rs.map RoomE.key) : (rs[ixR rs key]'(ixR_lt h)).gives = givesOf rs key:=by
 rw [← gives_find hup (ixR_lt h),ixR_key h]
theorem ixR_inj {rs : List RoomE} {a b : List UInt8} (ha : a ∈ rs.map RoomE.key) (hb : b ∈ rs.map RoomE.key) (h : ixR rs a = ixR rs b) : a = b:=by
 rw [← ixR_key ha,← ixR_key hb];simp only [h]
theorem WorW.doorI {W : World} {lo mp : Nat} {q : WorP} {T : List (List UInt8)} {rs : List RoomE} {ds : List DoorE} {tr : List (List UInt8)} {wo st gl : List UInt8} (h : WorW W lo mp q T rs ds tr wo st gl) (hR : Right rs ds st gl) {k : Nat} (hk : k < ds.length) : ∃ b off,q.DA = some ⟨b,off,none⟩ ∧ b < W.heap.size ∧ W.cell? ⟨b,off + k * 5,none⟩ = some (.int .i64 (ixR rs ds[k].src : Int)) ∧ W.cell? ⟨b,off + k * 5 + 1,none⟩ = some (.int .i64 (ixR rs ds[k].dst : Int)) ∧ W.cell? ⟨b,off + k * 5 + 2,none⟩ = some (.int .i64 ds[k].time) ∧ W.cell? ⟨b,off + k * 5 + 3,none⟩ = some (.int .i64 (bitsT T ds[k].needs)) ∧ W.cell? ⟨b,off + k * 5 + 4,none⟩ = some (.int .i64 (bitsT T ds[k].takes)):=by
 obtain ⟨b,off,e,hb,hc⟩:=h.door (by omega);obtain ⟨c0,c1,c2⟩:=hc k hk;rw [roomI_mem (hR.src _ (List.getElem_mem hk))] at c0;rw [roomI_mem (hR.dst _ (List.getElem_mem hk))] at c1;exact ⟨b,off,e,hb,c0,c1,c2⟩
theorem WorW.giveI {W : World} {lo mp : Nat} {q : WorP} {T : List (List UInt8)} {rs : List RoomE} {ds : List DoorE} {tr : List (List UInt8)} {wo st gl : List UInt8} (h : WorW W lo mp q T rs ds tr wo st gl) (hup : UpS (rs.map RoomE.key)) {key : List UInt8} (hk : key ∈ rs.map RoomE.key) : ∃ b off,q.GA = some ⟨b,off,none⟩ ∧ b < W.heap.size ∧ W.cell? ⟨b,off + ixR rs key,none⟩ = some (.int .i64 (bitsT T (givesOf rs key))):=by
 have hi:=ixR_lt hk;obtain ⟨b,off,e,hb,hc⟩:=h.give (by omega);have:=hc _ hi;rw [ixR_gives hup hk] at this;exact ⟨b,off,e,hb,this⟩
theorem out_mem {rs : List RoomE} {ds : List DoorE} {tr : List (List UInt8)} {wo : List UInt8} {k r : Nat} (hk : k < ds.length) (hs : roomI rs ds[k].src = (r : Int)) : ((k : Int) ∈ outN rs ds tr wo r) ↔ okD tr wo ds[k] = true:=by
 have e : ds.getD k default = ds[k]:=by rw [List.getD_eq_getElem?_getD,List.getElem?_eq_getElem hk]; rfl
 unfold outN;rw [List.mem_map]
 constructor
 ·rintro ⟨j,hj,ej⟩
  have : j = k:=by omega
  subst this;have:=(List.mem_filter.1 hj).2;rw [e] at this;simp only [Bool.and_eq_true] at this;exact this.2
 ·intro h
  exact ⟨k,List.mem_filter.2 ⟨List.mem_range.2 hk,by rw [e,hs,h]; simp⟩,rfl⟩
theorem okD_none {tr : List (List UInt8)} {d : DoorE} (hd : d.key ≠ []) : (okD tr [] d = true) ↔ ¬ (d.trick ≠ [] ∧ d.trick ∉ tr):=by
 unfold okD;rw [show (d.key != []) = true from bne_iff_ne.2 hd,Bool.true_and]
 by_cases h1 : d.trick = []
 ·simp [h1]
 ·simp [h1]
set_option maxHeartbeats 2000000 in
theorem beginW_any (p gb goff gc n r : Nat) (x : Int) (w : World) (h5 : w.cell? ⟨p,5,none⟩ = some (.int .i64 (r : Int))) (h2 : w.cell? ⟨p,2,none⟩ = some (.slice (some ⟨gb,goff,none⟩) n gc)) (hg : w.cell? ⟨gb,goff + r,none⟩ = some (.int .i64 x)) (hr : r < n) (hn : n ≤ 1000000) :
  Calls Tryz.prog 137 #[.pointer (some ⟨p,0,none⟩)] w fun e w' => e = .returned (.agg #[.int .i64 (r : Int),.int .i64 x,.int .i64 0]) ∧ Below w.heap.size w w':=by
 have hi0 : (0 : Int) ≤ (r : Int):=by omega
 have hi1 : (r : Int) < (n : Int):=by omega
 have zp:=World.block_lt_of_cell? w _ h5;have zg:=World.block_lt_of_cell? w _ hg;simp only at zp zg
 have hA : (fun w' : World => w'.cell? ⟨p,5,none⟩ = some (.int .i64 (r : Int)) ∧ w'.cell? ⟨p,2,none⟩ = some (.slice (some ⟨gb,goff,none⟩) n gc) ∧ w'.cell? ⟨gb,goff + r,none⟩ = some (.int .i64 x)) ((w.alloc (.cells #[.int .i64 0,.int .i64 0,.int .i64 0] 232)).drew):=⟨cell_al h5 _,cell_al h2 _,cell_al hg _⟩
 have hB : (fun w' : World => w'.cell? ⟨p,5,none⟩ = some (.int .i64 (r : Int)) ∧ w'.cell? ⟨p,2,none⟩ = some (.slice (some ⟨gb,goff,none⟩) n gc) ∧ w'.cell? ⟨gb,goff + r,none⟩ = some (.int .i64 x)) ((w.alloc (.cells #[.int .i64 (r : Int),.int .i64 x,.int .i64 0] 232)).drew):=⟨cell_al h5 _,cell_al h2 _,cell_al hg _⟩
 clear h5 h2 hg
 go_enter Tryz.func137,Tryz.ntmps137
 go_upto_region 1 with (fail);refine wp_region_held_drew (S:=(fun w' => w'.cell? ⟨p,5,none⟩ = some (.int .i64 (r : Int)) ∧ w'.cell? ⟨p,2,none⟩ = some (.slice (some ⟨gb,goff,none⟩) n gc) ∧ w'.cell? ⟨gb,goff + r,none⟩ = some (.int .i64 x))) (by kernel_rfl) (hA) (fun hHeld => ?_);(refine QU 0 ?_; (try simp only [Act.put,Q3,Q4,Q5]));(refine QU 1 ?_; (try simp only [Act.put,Q3,Q4,Q5]));(refine QU 2 ?_; (try simp only [Act.put,Q3,Q4,Q5]));(refine QU 3 ?_; (try simp only [Act.put,Q3,Q4,Q5]));(refine QU 4 ?_; (try simp only [Act.put,Q3,Q4,Q5]));(refine QU 5 ?_; (try simp only [Act.put,Q3,Q4,Q5]));(refine QU 6 ?_; (try simp only [Act.put,Q3,Q4,Q5]));(refine QU 7 ?_; (try simp only [Act.put,Q3,Q4,Q5]));(refine QU 8 ?_; (try simp only [Act.put,Q3,Q4,Q5]));(refine QU 9 ?_; (try simp only [Act.put,Q3,Q4,Q5]));(refine QU 10 ?_; (try simp only [Act.put,Q3,Q4,Q5]));(refine QU 11 ?_; (try simp only [Act.put,Q3,Q4,Q5]));(refine QU 12 ?_; (try simp only [Act.put,Q3,Q4,Q5]));(refine QU 13 ?_; (try simp only [Act.put,Q3,Q4,Q5]));(refine QU 14 ?_; (try simp only [Act.put,Q3,Q4,Q5]));refine QR 15 fun K hK => ?_;go_simp;refine hK.out _ _ (hB) (fun hHeld => ?_);clear hK K;(try simp only [Act.put,Q3,Q4,Q5]);refine wpAnyH_done (by kernel_rfl) ?_ _;go_wp2_with fail;refine bodyPost_ret (v:=.agg #[.int .i64 (r : Int),.int .i64 x,.int .i64 0]) (by simp [results,Tryz.results137,go_sem]) rfl ?_;exact ⟨rfl,(by repeat (first | exact Below.refl _ _ | refine Below.alloc ?_ (by first | omega | (simp; omega) | simp) _ | refine below_drewN' ?_ _ | refine Below.drew ?_))⟩
set_option maxHeartbeats 2000000 in
theorem pass_no (p : Nat) (r b s fr tt tm nd tk : Int) (w : World) (hz : (bits .andNot .i64 nd b != 0) = true) :
  Calls Tryz.prog 174 #[.pointer (some ⟨p,0,none⟩),.agg #[.int .i64 r,.int .i64 b,.int .i64 s],.agg #[.int .i64 fr,.int .i64 tt,.int .i64 tm,.int .i64 nd,.int .i64 tk]] w fun e w' => e = .returned (.tuple #[.agg #[.int .i64 r,.int .i64 b,.int .i64 s],.bool false]) ∧ Below w.heap.size w w':=by
 go_enter Tryz.func174,Tryz.ntmps174
 go_wp2_with fail;refine bodyPost_ret (v:=.tuple #[.agg #[.int .i64 r,.int .i64 b,.int .i64 s],.bool false]) (by simp [results,Tryz.results174,go_sem]) rfl ?_;exact ⟨rfl,(by repeat (first | exact Below.refl _ _ | refine Below.alloc ?_ (by first | omega | (simp; omega) | simp) _ | refine below_drewN' ?_ _ | refine Below.drew ?_))⟩
set_option maxHeartbeats 2000000 in
theorem pass_yes (p gb goff gc n tt : Nat) (r b s fr tm nd tk x : Int) (w : World) (h2 : w.cell? ⟨p,2,none⟩ = some (.slice (some ⟨gb,goff,none⟩) n gc)) (hg : w.cell? ⟨gb,goff + tt,none⟩ = some (.int .i64 x)) (hr : tt < n) (hn : n ≤ 1000000) (hz : (bits .andNot .i64 nd b != 0) = false) :
  Calls Tryz.prog 174 #[.pointer (some ⟨p,0,none⟩),.agg #[.int .i64 r,.int .i64 b,.int .i64 s],.agg #[.int .i64 fr,.int .i64 (tt : Int),.int .i64 tm,.int .i64 nd,.int .i64 tk]] w fun e w' => e = .returned (.tuple #[.agg #[.int .i64 (tt : Int),.int .i64 (bits .or .i64 (bits .andNot .i64 b tk) x),.int .i64 s],.bool true]) ∧ Below w.heap.size w w':=by
 have hi0 : (0 : Int) ≤ (tt : Int):=by omega
 have hi1 : (tt : Int) < (n : Int):=by omega
 have zp:=World.block_lt_of_cell? w _ h2;have zg:=World.block_lt_of_cell? w _ hg;simp only at zp zg
 have hA : (fun w' : World => w'.cell? ⟨p,2,none⟩ = some (.slice (some ⟨gb,goff,none⟩) n gc) ∧ w'.cell? ⟨gb,goff + tt,none⟩ = some (.int .i64 x) ∧ w'.cell? ⟨w.heap.size,1,none⟩ = some (.int .i64 b) ∧ w'.cell? ⟨w.heap.size,2,none⟩ = some (.int .i64 s) ∧ w'.cell? ⟨w.heap.size + 1,1,none⟩ = some (.int .i64 (tt : Int)) ∧ w'.cell? ⟨w.heap.size + 1,4,none⟩ = some (.int .i64 tk)) ((((w.alloc (.cells #[.int .i64 r,.int .i64 b,.int .i64 s] 232)).alloc (.cells #[.int .i64 fr,.int .i64 (tt : Int),.int .i64 tm,.int .i64 nd,.int .i64 tk] 248)).alloc (.cells #[.int .i64 0,.int .i64 0,.int .i64 0] 232)).drew):=by
  have hS1 : Blk (((w.alloc (.cells #[.int .i64 r,.int .i64 b,.int .i64 s] 232)).alloc (.cells #[.int .i64 fr,.int .i64 (tt : Int),.int .i64 tm,.int .i64 nd,.int .i64 tk] 248)).alloc (.cells #[.int .i64 0,.int .i64 0,.int .i64 0] 232)).drew w.heap.size 232 #[.int .i64 r,.int .i64 b,.int .i64 s]:=(((Blk.new _ _ _).alloc _).alloc _).drew;have hS2 : Blk (((w.alloc (.cells #[.int .i64 r,.int .i64 b,.int .i64 s] 232)).alloc (.cells #[.int .i64 fr,.int .i64 (tt : Int),.int .i64 tm,.int .i64 nd,.int .i64 tk] 248)).alloc (.cells #[.int .i64 0,.int .i64 0,.int .i64 0] 232)).drew (w.heap.size + 1) 248 #[.int .i64 fr,.int .i64 (tt : Int),.int .i64 tm,.int .i64 nd,.int .i64 tk]:=((Blk.at_ _ (by simp)).alloc _).drew;exact ⟨cell_al (cell_al (cell_al h2 _) _) _,cell_al (cell_al (cell_al hg _) _) _,hS1.w3.2.1,hS1.w3.2.2,hS2.w5.2.1,hS2.w5.2.2.2.2⟩
 have hB : (fun w' : World => w'.cell? ⟨p,2,none⟩ = some (.slice (some ⟨gb,goff,none⟩) n gc) ∧ w'.cell? ⟨gb,goff + tt,none⟩ = some (.int .i64 x) ∧ w'.cell? ⟨w.heap.size,1,none⟩ = some (.int .i64 b) ∧ w'.cell? ⟨w.heap.size,2,none⟩ = some (.int .i64 s) ∧ w'.cell? ⟨w.heap.size + 1,1,none⟩ = some (.int .i64 (tt : Int)) ∧ w'.cell? ⟨w.heap.size + 1,4,none⟩ = some (.int .i64 tk)) ((((w.alloc (.cells #[.int .i64 r,.int .i64 b,.int .i64 s] 232)).alloc (.cells #[.int .i64 fr,.int .i64 (tt : Int),.int .i64 tm,.int .i64 nd,.int .i64 tk] 248)).alloc (.cells #[.int .i64 (tt : Int),.int .i64 (bits .or .i64 (bits .andNot .i64 b tk) x),.int .i64 s] 232)).drew):=by
  have hS1 : Blk (((w.alloc (.cells #[.int .i64 r,.int .i64 b,.int .i64 s] 232)).alloc (.cells #[.int .i64 fr,.int .i64 (tt : Int),.int .i64 tm,.int .i64 nd,.int .i64 tk] 248)).alloc (.cells #[.int .i64 (tt : Int),.int .i64 (bits .or .i64 (bits .andNot .i64 b tk) x),.int .i64 s] 232)).drew w.heap.size 232 #[.int .i64 r,.int .i64 b,.int .i64 s]:=(((Blk.new _ _ _).alloc _).alloc _).drew;have hS2 : Blk (((w.alloc (.cells #[.int .i64 r,.int .i64 b,.int .i64 s] 232)).alloc (.cells #[.int .i64 fr,.int .i64 (tt : Int),.int .i64 tm,.int .i64 nd,.int .i64 tk] 248)).alloc (.cells #[.int .i64 (tt : Int),.int .i64 (bits .or .i64 (bits .andNot .i64 b tk) x),.int .i64 s] 232)).drew (w.heap.size + 1) 248 #[.int .i64 fr,.int .i64 (tt : Int),.int .i64 tm,.int .i64 nd,.int .i64 tk]:=((Blk.at_ _ (by simp)).alloc _).drew;exact ⟨cell_al (cell_al (cell_al h2 _) _) _,cell_al (cell_al (cell_al hg _) _) _,hS1.w3.2.1,hS1.w3.2.2,hS2.w5.2.1,hS2.w5.2.2.2.2⟩
 clear h2 hg
 go_enter Tryz.func174,Tryz.ntmps174
 go_upto_region 3 with (fail);refine wp_region_held_drew (S:=(fun w' => w'.cell? ⟨p,2,none⟩ = some (.slice (some ⟨gb,goff,none⟩) n gc) ∧ w'.cell? ⟨gb,goff + tt,none⟩ = some (.int .i64 x) ∧ w'.cell? ⟨w.heap.size,1,none⟩ = some (.int .i64 b) ∧ w'.cell? ⟨w.heap.size,2,none⟩ = some (.int .i64 s) ∧ w'.cell? ⟨w.heap.size + 1,1,none⟩ = some (.int .i64 (tt : Int)) ∧ w'.cell? ⟨w.heap.size + 1,4,none⟩ = some (.int .i64 tk))) (by kernel_rfl) (hA) (fun hHeld => ?_);(refine QU 0 ?_; (try simp only [Act.put,Q3,Q4,Q5]));(refine QU 1 ?_; (try simp only [Act.put,Q3,Q4,Q5]));(refine QU 2 ?_; (try simp only [Act.put,Q3,Q4,Q5]));(refine QU 3 ?_; (try simp only [Act.put,Q3,Q4,Q5]));(refine QU 4 ?_; (try simp only [Act.put,Q3,Q4,Q5]));(refine QU 5 ?_; (try simp only [Act.put,Q3,Q4,Q5]));(refine QU 6 ?_; (try simp only [Act.put,Q3,Q4,Q5]));(refine QU 7 ?_; (try simp only [Act.put,Q3,Q4,Q5]));(refine QU 8 ?_; (try simp only [Act.put,Q3,Q4,Q5]));(refine QU 9 ?_; (try simp only [Act.put,Q3,Q4,Q5]));(refine QU 10 ?_; (try simp only [Act.put,Q3,Q4,Q5]));(refine QU 11 ?_; (try simp only [Act.put,Q3,Q4,Q5]));(refine QU 12 ?_; (try simp only [Act.put,Q3,Q4,Q5]));(refine QU 13 ?_; (try simp only [Act.put,Q3,Q4,Q5]));(refine QU 14 ?_; (try simp only [Act.put,Q3,Q4,Q5]));(refine QU 15 ?_; (try simp only [Act.put,Q3,Q4,Q5]));(refine QU 16 ?_; (try simp only [Act.put,Q3,Q4,Q5]));(refine QU 17 ?_; (try simp only [Act.put,Q3,Q4,Q5]));(refine QU 18 ?_; (try simp only [Act.put,Q3,Q4,Q5]));refine QR 19 fun K hK => ?_;go_simp;refine hK.out _ _ (hB) (fun hHeld => ?_);clear hK K;(try simp only [Act.put,Q3,Q4,Q5]);(refine QU 20 ?_; (try simp only [Act.put,Q3,Q4,Q5]));refine wpAnyH_done (by kernel_rfl) ?_ _;go_wp2_with fail;refine bodyPost_ret (v:=.tuple #[.agg #[.int .i64 (tt : Int),.int .i64 (bits .or .i64 (bits .andNot .i64 b tk) x),.int .i64 s],.bool true]) (by simp [results,Tryz.results174,go_sem]) rfl ?_;exact ⟨rfl,(by repeat (first | exact Below.refl _ _ | refine Below.alloc ?_ (by first | omega | (simp; omega) | simp) _ | refine below_drewN' ?_ _ | refine Below.drew ?_))⟩
def PtPost (w : World) (key : List UInt8) (l : List (List UInt8)) (e : Ending) (w' : World) : Prop:=∃ A c,e = .returned (.agg #[.string ⟨key.toArray⟩,.slice A l.length c]) ∧ Row w' w.heap.size 1 A l.length (strs l) ∧ Below w.heap.size w w'
def WaPost (w : World) (r : WkR) (e : Ending) (w' : World) : Prop:=∃ A c,e = .returned (.tuple #[.agg #[.string ⟨r.room.toArray⟩,.slice A r.th.length c],.int .i64 r.time,.int .i64 r.err]) ∧ Row w' w.heap.size 1 A r.th.length (strs r.th) ∧ Below w.heap.size w w'
theorem WaPost.bad {w w' : World} {r : WkR} {e : Int} (h : r = wkBad e) (hb : Below w.heap.size w w') : WaPost w r (.returned (.tuple #[.agg #[.string ⟨#[]⟩,.slice none 0 0],.int .i64 0,.int .i64 e])) w':=by
 subst h;exact ⟨none,0,rfl,Row.none_ _ _ _ _,hb⟩
def WaPostO (w : World) (r : WkR) (e : Ending) (w' : World) : Prop:=∃ A c,e = .returned (.tuple #[.agg #[.string ⟨r.room.toArray⟩,.slice A r.th.length c],.int .i64 r.time,.int .i64 r.err]) ∧ w'.ownsRow w.heap.size 9 1 (.slice A r.th.length c) r.th.length (strs r.th) ∧ Below w.heap.size w w'
theorem WaPostO.bad {w w' : World} {r : WkR} {e : Int} (h : r = wkBad e) (hb : Below w.heap.size w w') : WaPostO w r (.returned (.tuple #[.agg #[.string ⟨#[]⟩,.slice none 0 0],.int .i64 0,.int .i64 e])) w':=by
 subst h;exact ⟨none,0,rfl,World.ownsRow_nil _ _ _ _,hb⟩
theorem WaPostO.weak {w w' : World} {r : WkR} {e : Ending} (h : WaPostO w r e w') : WaPost w r e w' :=
 let ⟨A,c,h1,h2,h3⟩:=h; ⟨A,c,h1,Row.of_own h2,h3⟩
end Go.Proofs.YtkchacgkjdeiaaaGreatDoor
/- What a map's world leaves as it is while it is laid. -/
namespace Go.Proofs.YtkchacgkjdeiaaaGreatDoor
open Go.RowKit

theorem step_make {P : Program} {w : World} {ops : Array Oper} {o : Oper} {a : Act} {K : Act → World → Prop} {Q : Exit → Act → World → Prop} {E : Prop}
  (hgd : o.guard = none) (l c : Operand) (t : TypeId) (hop : o.op = Op.makeSlice t l c)
  (base : Nat) (e : TypeId) (i : TypeInfo) (z : Value) (size : Nat) (h1 : P.underlying t = some (.slice e)) (h2 : P.info? e = some i) (h3 : i.zero = some z) (h4 : i.size = size)
  (kl kc : IntKind) (L C : Int) (n : Nat) (hl : a.eval l = .int kl L) (hc : a.eval c = .int kc C) (hL : L = (n : Int)) (hC : C = (n : Int)) (b2 : i.bytes * n ≤ 281474976710656) (b3 : n ≤ maxLen) (b4 : base ≤ w.heap.size)
  (h : ∀ w',w'.ownsRow base e size (.slice (some ⟨w.heap.size,0,none⟩) n n) n (madeCells z.cells (n * size)).toList → w.grownBy w' none → K (a.put o.dst (.slice (some ⟨w.heap.size,0,none⟩) n n)) w') :
  if Region.wanted o (yielded ops a.tmps) = true then Oper.wp P o a w K Q else E:=by
 have hw : Region.wanted o (yielded ops a.tmps) = true:=by simp [Region.wanted,hgd]
 rw [if_pos hw];obtain ⟨w',hrun,r1,r2⟩:=run_make_full (P:=P) w base t e i z size h1 h2 h3 h4 kl kc n b2 b3 b4;subst hL;subst hC;unfold Oper.wp
 simp [execOp,hop,hl,hc,hrun,Result.andThen]
 exact h w' r1 r2
theorem nest_made {b : Nat} {w' : World} {n : Nat} (h0 : 0 < n) (ho : w'.ownsRow b 22 1 (.slice (some ⟨b,0,none⟩) n n) n (madeCells (Value.slice none 0 0).cells (n * 1)).toList) :
  ∃ cs,Blk w' b 22 cs ∧ ∀ i,i < n → cs[i]? = some (.slice none 0 0):=by
 obtain ⟨g,cs,eg,hg,hblk,hcs,hsz⟩:=own_blkS ho h0;have eg' : b = g:=congrArg Addr.block (Option.some.inj eg);subst eg';refine ⟨cs,hblk,fun i hi => ?_⟩;rw [hcs i hi];have e2 : (Value.slice none 0 0).cells = #[.slice none 0 0]:=rfl;rw [e2,toList_madeCells_one,Nat.mul_one]
 simp [hi]
theorem below_none {w w' : World} (h : w.grownBy w' none) : Below w.heap.size w w':=(Below.refl _ _).grown h (Nat.le_refl _) (fun k hk => by cases hk)
def Oth (a b : World) (x y : Nat) : Prop:=a.heap.size ≤ b.heap.size ∧ ∀ k,k < a.heap.size → k ≠ x → k ≠ y → b.heap[k]? = a.heap[k]?
section
variable {a b c : World} {x y : Nat}
theorem Oth.refl (a : World) (x y : Nat) : Oth a a x y:=⟨Nat.le_refl _,fun _ _ _ _ => rfl⟩
theorem Oth.below (h : Oth a b x y) (hb : Below b.heap.size b c) : Oth a c x y:=⟨Nat.le_trans h.1 hb.size,fun k hk h1 h2 => (hb.block k (Nat.lt_of_lt_of_le hk h.1)).trans (h.2 k hk h1 h2)⟩
theorem Oth.set (h : Oth a b x y) (k i : Nat) (u : Value) (hk : k = x ∨ k = y) : Oth a (b.setCell ⟨k,i,none⟩ u) x y :=
 ⟨by simpa [World.setCell] using h.1,fun j hj h1 h2 => (Below.heap_setCell b ⟨k,i,none⟩ u j (by rcases hk with rfl | rfl <;> intro e <;> simp at e <;> omega)).trans (h.2 j hj h1 h2)⟩
theorem Oth.grown {row : Option Nat} (h : Oth a b x y) (hg : b.grownBy c row) (hr : ∀ k,row = some k → a.heap.size ≤ k) : Oth a c x y :=
 ⟨Nat.le_trans h.1 hg.size,fun k hk h1 h2 => (hg.block k (Nat.lt_of_lt_of_le hk h.1) (fun e => by have:=hr k e.symm; omega)).trans (h.2 k hk h1 h2)⟩
theorem Row.oth {lo size n : Nat} {A : Option Addr} {xs : List Value} (h : Row a lo size A n xs) (ho : Oth a b x y) (hne : ∀ ad,A = some ad → ad.block ≠ x ∧ ad.block ≠ y) : Row b lo size A n xs :=
 ⟨h.1,fun hn => by
  obtain ⟨bk,off,e,hl,hb,hc⟩:=h.2 hn;obtain ⟨h1,h2⟩:=hne _ e
  exact ⟨bk,off,e,hl,Nat.lt_of_lt_of_le hb ho.1,fun j u hu => (World.cell?_of_block (w:=a) (ho.2 bk hb h1 h2)).trans (hc j u hu)⟩⟩
end
section
variable {w w' : World}
theorem own_typ {base base' size size' n n' k : Nat} {e e' : TypeId} {v v' : Value} {xs xs' : List Value} (h : w.ownsRow base e size v n xs) (h' : w.ownsRow base' e' size' v' n' xs') (hk : v.ownBlock = some k) (hk' : v'.ownBlock = some k) : e = e':=by
 rcases h.2 with ⟨rfl,_⟩ | ⟨g,cap,cur,rfl,_,hg,_⟩
 ·simp [Value.ownBlock] at hk
 rcases h'.2 with ⟨rfl,_⟩ | ⟨g',cap',cur',rfl,_,hg',_⟩
 ·simp [Value.ownBlock] at hk'
 simp [Value.ownBlock] at hk hk'
 subst hk hk';rw [hg] at hg';injection hg' with e1;injection e1
theorem own_blkne {base size n g : Nat} {e t : TypeId} {v : Value} {xs : List Value} {cs : Array Value} (h : w.ownsRow base e size v n xs) (hb : Blk w g t cs) (hne : e ≠ t) : ∀ k,v.ownBlock = some k → k ≠ g:=by
 intro k hk e1;subst e1;rcases h.2 with ⟨rfl,_⟩ | ⟨g',cap,cur,rfl,_,hg,_⟩
 ·simp [Value.ownBlock] at hk
 simp [Value.ownBlock] at hk
 subst hk;have hb' : w.heap[g']? = some (.cells cs t (0,0)):=hb;rw [hg] at hb';injection hb' with e1;injection e1 with _ e2;exact hne e2
theorem own_app2 {base base' size size' n n' : Nat} {e e' : TypeId} {v v' : Value} {xs xs' : List Value} (h : w.ownsRow base e size v n xs) (h' : w.ownsRow base' e' size' v' n' xs') (hne : e ≠ e') (hg : w.grownBy w' v'.ownBlock) : w'.ownsRow base e size v n xs :=
 h.kept hg (by
  cases hv : v.ownBlock with
  | none => exact .inl rfl
  | some k => exact .inr fun e1 => hne (own_typ h h' hv e1.symm))
section
variable {tI tS : TypeId} {base g : Nat} {rows : List (List Int)}
theorem Nest.appT {e : TypeId} {size n b2 : Nat} {v : Value} {xs : List Value} (h : Nest tI tS w base g rows) (hown : w.ownsRow b2 e size v n xs) (hg : w.grownBy w' v.ownBlock) (he : e ≠ tS) (he2 : tI ≠ e) : Nest tI tS w' base g rows:=by
 obtain ⟨ne,cs,h1,h2,h3⟩:=h;exact ⟨ne,cs,Blk.app hown h1 hg he,fun i hi => let ⟨A,c,a,b⟩:=h2 i hi; ⟨A,c,a,own_app2 b hown he2 hg⟩,h3⟩
theorem Nest.past {p : Nat} {t : TypeId} {ds : Array Value} (h : Nest tI tS w base g rows) (hb : Blk w p t ds) (h1 : tS ≠ t) (h2 : tI ≠ t) (i : Nat) (u : Value) : Nest tI tS (w.setCell ⟨p,i,none⟩ u) base g rows:=by
 obtain ⟨ne,cs,k1,k2,k3⟩:=h;exact ⟨ne,cs,k1.past p i u (k1.ne hb h1),fun j hj => let ⟨A,c,a,b⟩:=k2 j hj; ⟨A,c,a,own_past b hb h2 i u⟩,k3⟩
end
end
structure N1 (w W1 W : World) (p g : Nat) (box : Array Value) (rows : List (List Int)) (DV : Value) (k : Nat) (cells : List Value) : Prop where
  bw : Below w.heap.size w W
  oth : Oth W1 W p g
  box : Blk W p 251 box
  nest : Nest 3 22 W W1.heap.size g rows
  own : W.ownsRow W1.heap.size 248 5 DV k cells
theorem Blk.grownN {w w' : World} {g : Nat} {t : TypeId} {cs : Array Value} {row : Option Nat} (h : Blk w g t cs) (hg : w.grownBy w' row) (hne : ∀ b,row = some b → b ≠ g) : Blk w' g t cs :=
 (hg.block g h.lt (fun e => hne g e.symm rfl)).trans h
section
variable {w W1 W W' : World} {p g k : Nat} {box : Array Value} {rows : List (List Int)} {DV : Value} {cells : List Value}
theorem N1.below (h : N1 w W1 W p g box rows DV k cells) (hb : Below W.heap.size W W') : N1 w W1 W' p g box rows DV k cells :=
 ⟨below_up h.bw hb,h.oth.below hb,h.box.below hb,h.nest.below hb,own_keep h.own hb⟩
theorem N1.alloc (h : N1 w W1 W p g box rows DV k cells) (o : Obj) : N1 w W1 (W.alloc o) p g box rows DV k cells:=h.below ((Below.refl _ _).alloc (Nat.le_refl _) o)
theorem N1.drew (h : N1 w W1 W p g box rows DV k cells) : N1 w W1 W.drew p g box rows DV k cells:=h.below (below_drewN' (Below.refl _ _) 1)
theorem N1.appD (h : N1 w W1 W p g box rows DV k cells) (hw : w.heap.size ≤ W1.heap.size) {DV' : Value} {k' : Nat} {cells' : List Value} (hg : W.grownBy W' DV.ownBlock) (ho : W'.ownsRow W1.heap.size 248 5 DV' k' cells') : N1 w W1 W' p g box rows DV' k' cells' :=
 ⟨h.bw.grown hg h.bw.size (fun q hq => Nat.le_trans hw (h.own.lt q hq).1),h.oth.grown hg (fun q hq => (h.own.lt q hq).1),Blk.app h.own h.box hg (by decide),h.nest.appT h.own hg (by decide) (by decide),ho⟩
theorem N1.setP (h : N1 w W1 W p g box rows DV k cells) (hp : w.heap.size ≤ p) (i : Nat) (u : Value) : N1 w W1 (W.setCell ⟨p,i,none⟩ u) p g (box.setIfInBounds i u) rows DV k cells :=
 ⟨Below.setCell h.bw (by simpa using hp) _,h.oth.set p i u (.inl rfl),h.box.poke i u,h.nest.past h.box (by decide) (by decide) i u,own_past h.own h.box (by decide) i u⟩
theorem own_set_otherW {w : World} {base : Nat} {e : TypeId} {size : Nat} {v : Value} {n : Nat} {xs : List Value} (h : w.ownsRow base e size v n xs) {p : Addr} (hp : ∀ k,v.ownBlock = some k → k ≠ p.block) (u : Value) : (w.setCell p u).ownsRow base e size v n xs :=
 h.kept (row:=some p.block) ⟨rfl,rfl,rfl,by simp [World.setCell],fun k _ hk => Below.heap_setCell w p u k (fun e => hk (by rw [e]))⟩ (by
  cases hv : v.ownBlock with
  | none => exact .inl rfl
  | some k => right; intro he; exact hp k hv (by injection he))
theorem Oth.setN {a b : World} {x y : Nat} (h : Oth a b x y) (k i : Nat) (u : Value) (hk : a.heap.size ≤ k) : Oth a (b.setCell ⟨k,i,none⟩ u) x y :=
 ⟨by simpa [World.setCell] using h.1,fun j hj h1 h2 => (Below.heap_setCell b ⟨k,i,none⟩ u j (by simp; omega)).trans (h.2 j hj h1 h2)⟩
theorem N1.past (h : N1 w W1 W p g box rows DV k cells) {q : Nat} {cs : Array Value} (hq : Blk W q 248 cs) (hw : w.heap.size ≤ W1.heap.size) (zq : W1.heap.size ≤ q) (hqo : ∀ x,DV.ownBlock = some x → x ≠ q) (i : Nat) (u : Value) : N1 w W1 (W.setCell ⟨q,i,none⟩ u) p g box rows DV k cells :=
 ⟨Below.setCell h.bw (by simp; omega) _,h.oth.setN q i u zq,h.box.past q i u (h.box.ne hq (by decide)),h.nest.past hq (by decide) (by decide) i u,own_set_otherW h.own hqo _⟩
theorem N1.put5 (h : N1 w W1 W p g box rows DV k cells) {v q : Nat} {vcs : Array Value} (hv : Blk W v 137 vcs) {y0 y1 y2 y3 y4 : Value} (hq : Blk W q 248 #[y0,y1,y2,y3,y4]) (hw : w.heap.size ≤ W1.heap.size) (zq : W1.heap.size ≤ q) (hqo : ∀ x,DV.ownBlock = some x → x ≠ q) (x0 x1 x2 x3 x4 : Value) :
  Blk (((((W.setCell ⟨q,0,none⟩ x0).setCell ⟨q,1,none⟩ x1).setCell ⟨q,2,none⟩ x2).setCell ⟨q,3,none⟩ x3).setCell ⟨q,4,none⟩ x4) q 248 #[x0,x1,x2,x3,x4] ∧ N1 w W1 (((((W.setCell ⟨q,0,none⟩ x0).setCell ⟨q,1,none⟩ x1).setCell ⟨q,2,none⟩ x2).setCell ⟨q,3,none⟩ x3).setCell ⟨q,4,none⟩ x4) p g box rows DV k cells ∧ Blk (((((W.setCell ⟨q,0,none⟩ x0).setCell ⟨q,1,none⟩ x1).setCell ⟨q,2,none⟩ x2).setCell ⟨q,3,none⟩ x3).setCell ⟨q,4,none⟩ x4) v 137 vcs:=by
 have q0:=hq.poke 0 x0;have q1:=q0.poke 1 x1;have q2:=q1.poke 2 x2;have q3:=q2.poke 3 x3;have q4:=q3.poke 4 x4;have hne:=hv.ne hq (by decide);refine ⟨?_,((((h.past hq hw zq hqo 0 x0).past q0 hw zq hqo 1 x1).past q1 hw zq hqo 2 x2).past q2 hw zq hqo 3 x3).past q3 hw zq hqo 4 x4,((((hv.past q 0 x0 hne).past q 1 x1 hne).past q 2 x2 hne).past q 3 x3 hne).past q 4 x4 hne⟩
 simpa using q4
theorem N1.row (h : N1 w W1 W p g box rows DV k cells) {i : Nat} {xs0 : List Int} (hx0 : rows[i]? = some xs0) : ∃ A c,W.cell? ⟨g,i,none⟩ = some (.slice A xs0.length c) ∧ W.ownsRow W1.heap.size 3 1 (.slice A xs0.length c) xs0.length (ints xs0):=by
 obtain ⟨hi,hx⟩:=List.getElem?_eq_some_iff.1 hx0;subst hx; exact h.nest.row hi
theorem N1.mid (h : N1 w W1 W p g box rows DV k cells) {i : Nat} {xs0 : List Int} (hx0 : rows[i]? = some xs0) {A : Option Addr} {c : Nat} (hc : W.cell? ⟨g,i,none⟩ = some (.slice A xs0.length c)) (hg : W.grownBy W' (Value.slice A xs0.length c).ownBlock) :
  Blk W' p 251 box ∧ (∃ cs,Blk W' g 22 cs) ∧ (∀ j,W'.cell? ⟨g,j,none⟩ = W.cell? ⟨g,j,none⟩) ∧ ∀ (b : Nat) (t : TypeId) (cs : Array Value),t ≠ 3 → Blk W b t cs → Blk W' b t cs:=by
 obtain ⟨hi,hx⟩:=List.getElem?_eq_some_iff.1 hx0;subst hx;obtain ⟨A1,c1,h1,h2⟩:=h.nest.row hi;rw [hc] at h1;injection h1 with h1;injection h1 with e1 _ e2;subst e1 e2;obtain ⟨a,b⟩:=h.nest.grown_ hi hc hg;exact ⟨Blk.app h2 h.box hg (by decide),a,b,fun b t cs hne hb => Blk.app h2 hb hg (Ne.symm hne)⟩
theorem N1.push (h : N1 w W1 W p g box rows DV k cells) (hgw : w.heap.size ≤ g) (hw : w.heap.size ≤ W1.heap.size) {i : Nat} {xs0 : List Int} (hx0 : rows[i]? = some xs0) {A A' : Option Addr} {c c' : Nat} (hc : W.cell? ⟨g,i,none⟩ = some (.slice A xs0.length c)) {xs : List Int}
  (hg : W.grownBy W' (Value.slice A xs0.length c).ownBlock) (ho : W'.ownsRow W1.heap.size 3 1 (.slice A' xs.length c') xs.length (ints xs))
  (hb : (Value.slice A' xs.length c').ownBlock = (Value.slice A xs0.length c).ownBlock ∨ (Value.slice A' xs.length c').ownBlock = some W.heap.size) : N1 w W1 (W'.setCell ⟨g,i,none⟩ (.slice A' xs.length c')) p g box (rows.set i xs) DV k cells:=by
 obtain ⟨hp2,⟨cs,hg2⟩,_⟩:=h.mid hx0 hc hg;obtain ⟨hi,hx⟩:=List.getElem?_eq_some_iff.1 hx0;subst hx;obtain ⟨A1,c1,h1,h2⟩:=h.nest.row hi;have hc':=hc;rw [hc'] at h1;injection h1 with h1;injection h1 with e1 _ e2;subst e1 e2;exact ⟨Below.setCell (h.bw.grown hg h.bw.size (fun q hq => Nat.le_trans hw (h2.lt q hq).1)) (by simpa using hgw) _,(h.oth.grown hg (fun q hq => (h2.lt q hq).1)).set g i _ (.inr rfl),hp2.past g i _ (hp2.ne hg2 (by decide)),h.nest.push hi hc hg ho hb,own_past (own_app2 h.own h2 (by decide) hg) hg2 (by decide) i _⟩
end
def outQ (rs : List RoomE) (ds : List DoorE) (tr : List (List UInt8)) (wo : List UInt8) (k r : Nat) : List Int:=((List.range k).filter fun i => (roomI rs (ds.getD i default).src == (r : Int)) && okD tr wo (ds.getD i default)).map fun (i : Nat) => (i : Int)
def outR (rs : List RoomE) (ds : List DoorE) (tr : List (List UInt8)) (wo : List UInt8) (k : Nat) : List (List Int):=(List.range rs.length).map (outQ rs ds tr wo k)
section
variable {rs : List RoomE} {ds : List DoorE} {tr : List (List UInt8)} {wo : List UInt8} {k : Nat}
theorem outR_len : (outR rs ds tr wo k).length = rs.length:=by simp [outR]
theorem outR_at {r : Nat} (h : r < (outR rs ds tr wo k).length) : (outR rs ds tr wo k)[r] = outQ rs ds tr wo k r:=by simp [outR]
theorem outR_0 : outR rs ds tr wo 0 = List.replicate rs.length []:=by
 apply List.ext_getElem
 ·simp [outR]
 ·intro i h1 h2; simp [outR,outQ]
theorem outQ_succ (r : Nat) : outQ rs ds tr wo (k + 1) r = outQ rs ds tr wo k r ++ if (roomI rs (ds.getD k default).src == (r : Int)) && okD tr wo (ds.getD k default) then [(k : Int)] else []:=by
 unfold outQ;rw [List.range_succ,List.filter_append,List.map_append]
 congr 1
 rw [List.filter_cons,List.filter_nil]
 by_cases h : ((roomI rs (ds.getD k default).src == (r : Int)) && okD tr wo (ds.getD k default)) = true
 ·rw [if_pos h,if_pos h]; rfl
 ·rw [if_neg h,if_neg h]; rfl
theorem outQ_len (r : Nat) : (outQ rs ds tr wo k r).length ≤ k:=by
 unfold outQ;rw [List.length_map];exact Nat.le_trans (List.length_filter_le _ _) (by simp)
theorem outR_no (h : okD tr wo (ds.getD k default) = false) : outR rs ds tr wo (k + 1) = outR rs ds tr wo k:=by
 unfold outR
 refine List.map_congr_left fun r _ => ?_
 rw [outQ_succ,h,Bool.and_false]; simp
theorem outR_yes (h : okD tr wo (ds.getD k default) = true) (hm : (ds.getD k default).src ∈ rs.map RoomE.key) : outR rs ds tr wo (k + 1) = (outR rs ds tr wo k).set (ixR rs (ds.getD k default).src) (outQ rs ds tr wo k (ixR rs (ds.getD k default).src) ++ [(k : Int)]):=by
 apply List.ext_getElem
 ·simp [outR]
 ·intro r h1 h2
  rw [outR_at,outQ_succ,h,Bool.and_true,roomI_mem hm,List.getElem_set]
  by_cases e : ixR rs (ds.getD k default).src = r
  ·rw [if_pos e,← e,if_pos (by simp)]
  ·rw [if_neg e,if_neg (by rw [beq_iff_eq]; omega),List.append_nil,outR_at]
end
end Go.Proofs.YtkchacgkjdeiaaaGreatDoor
