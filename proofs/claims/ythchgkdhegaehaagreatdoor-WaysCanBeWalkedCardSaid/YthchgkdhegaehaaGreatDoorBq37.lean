/- Texts of this seat, laid together: WkR WkO. -/
import Derived.Test.YthchgkdhegaehaaGreatDoorBq28
import Derived.Test.YthchgkdhegaehaaGreatDoorBq27
import Derived.Test.YthchgkdhegaehaaGreatDoorBq36
import Derived.Test.YthchgkdhegaehaaGreatDoorBq07
/- The walks of the reference's doorFault, through, firstPoint and SamePoint. -/
namespace Go.Proofs.YthchgkdhegaehaaGreatDoor
set_option linter.unusedVariables false
set_option linter.unusedSimpArgs false
open Go.RowKit Go.Sort Go.Shelf

theorem oneS : OneCell encStr:=fun _ => rfl
theorem getB {l : List (List UInt8)} {j : Nat} (hj : j < l.length) : l[j]! = l[j]:=getElem!_pos l j hj
theorem dfC_any (x : List UInt8) (pb c lo : Nat) (A : Option Addr) (th : List (List UInt8)) (w : World) (h1 : w.cell? ⟨pb,1,none⟩ = some (.slice A th.length c)) (hr : Row w lo 1 A th.length (strs th)) (hl : th.length ≤ 1000000000) :
  Calls Tryz.prog 143 #[encStr x,.pointer (some ⟨pb,0,none⟩)] w fun e w' => e = .returned (.bool (!decide (x ∈ th))) ∧ ∃ q,w' = w.drewN q:=by
 have hcon:=containsS_any A c lo th x w hr hl
 unfold encStr at hcon ⊢
 go_enter Tryz.func143,Tryz.ntmps143
 go_wp2_with fail
 refine hcon.mono ?_
 rintro e w1 ⟨rfl,rfl⟩
 go_wp2_with fail
 go_ret
 exact ⟨rfl,0,rfl⟩
theorem dfX_any (pb c lo lo2 nc : Nat) (A N : Option Addr) (th l : List (List UInt8)) (w : World) (h1 : w.cell? ⟨pb,1,none⟩ = some (.slice A th.length c)) (hr : Row w lo 1 A th.length (strs th)) (hl : th.length ≤ 1000000000) (hn : Row w lo2 1 N l.length (strs l)) (hnl : l.length ≤ 1000000000) :
  Calls Tryz.prog 79 #[.slice N l.length nc,.func (.func 143) #[] #[.pointer (some ⟨pb,0,none⟩)]] w fun e w' => e = .returned (.bool (l.any fun x => !decide (x ∈ th))) ∧ Below w.heap.size w w':=by
 have eg : ∀ args w,(callFunc 143 args).run Tryz.prog w = .ok (.enter 143 args) w:=enters_of Tryz.func143 (by kernel_rfl) rfl
 have hz:=World.block_lt_of_cell? w _ h1
 rcases Nat.eq_zero_or_pos l.length with h0 | h0
 ·obtain rfl : l = []:=List.eq_nil_of_length_eq_zero h0
  refine (AnyE.slices_ContainsFunc_empty Tryz.layCon N nc _ w).mono ?_
  rintro e w' ⟨rfl,rfl⟩
  exact ⟨rfl,Below.refl _ _⟩
 ·obtain ⟨b,off,rfl,hb,hc⟩:=strs_at hn h0
  have hp : PredAt Tryz.prog 143 #[.pointer (some ⟨pb,0,none⟩)] encStr (fun x => !decide (x ∈ th)) w:=fun W x hW =>
   dfC_any x pb c lo A th W ((hW.cell (p:=⟨pb,1,none⟩) hz).trans h1) (hr.below hW) hl
  have:=AnyE.slices_ContainsFunc Tryz.layCon encStr (fun x => !decide (x ∈ th)) 143 #[.pointer (some ⟨pb,0,none⟩)] eg b off l.length nc l w hp (Nat.le_refl _) (by omega) (fun j hj => by rw [getB hj]; exact hc j hj)
  rw [List.take_length] at this
  refine this.mono ?_
  rintro e w' ⟨rfl,q,rfl⟩
  exact ⟨rfl,below_drewN' (Below.refl _ _) q⟩
theorem any_needs (needs th : List (List UInt8)) : (needs.any fun x => !decide (x ∈ th)) = !decide (∀ s ∈ needs,s ∈ th):=by
 rw [Bool.eq_iff_iff]
 simp
set_option maxHeartbeats 4000000 in
theorem rdoorFault_any (lo1 lo2 lo3 c2 pc : Nat) (TR P : Option Addr) (tr th : List (List UInt8)) (room : List UInt8) (d : DoorE) (w : World) (hr : Row w lo1 1 TR tr.length (strs tr)) (hrl : tr.length ≤ 1000000000) (hth : Row w lo2 1 P th.length (strs th)) (hthl : th.length ≤ 1000000000) (hn : Row w lo3 1 d.N d.needs.length (strs d.needs)) (hnl : d.needs.length ≤ 1000000000) :
  Calls Tryz.prog 107 #[.slice TR tr.length c2,.agg #[.string ⟨room.toArray⟩,.slice P th.length pc],.agg #[.string ⟨d.key.toArray⟩,.string ⟨d.src.toArray⟩,.string ⟨d.dst.toArray⟩,.int .i64 d.time,.slice d.N d.needs.length d.nc,.slice d.T d.takes.length d.tc,.string ⟨d.trick.toArray⟩]] w fun e w' => e = .returned (.int .i64 (goE tr room th d)) ∧ Below w.heap.size w w':=by
 have hb : Below w.heap.size w ((w.alloc (.cells #[.string ⟨room.toArray⟩,.slice P th.length pc] 52)).alloc (.cells #[.string ⟨d.key.toArray⟩,.string ⟨d.src.toArray⟩,.string ⟨d.dst.toArray⟩,.int .i64 d.time,.slice d.N d.needs.length d.nc,.slice d.T d.takes.length d.tc,.string ⟨d.trick.toArray⟩] 75)):=((Below.refl _ w).alloc (Nat.le_refl _) _).alloc (by simp) _
 have hp : Blk ((w.alloc (.cells #[.string ⟨room.toArray⟩,.slice P th.length pc] 52)).alloc (.cells #[.string ⟨d.key.toArray⟩,.string ⟨d.src.toArray⟩,.string ⟨d.dst.toArray⟩,.int .i64 d.time,.slice d.N d.needs.length d.nc,.slice d.T d.takes.length d.tc,.string ⟨d.trick.toArray⟩] 75)) w.heap.size 52 #[.string ⟨room.toArray⟩,.slice P th.length pc]:=(Blk.new _ _ _).alloc _
 have hd : Blk ((w.alloc (.cells #[.string ⟨room.toArray⟩,.slice P th.length pc] 52)).alloc (.cells #[.string ⟨d.key.toArray⟩,.string ⟨d.src.toArray⟩,.string ⟨d.dst.toArray⟩,.int .i64 d.time,.slice d.N d.needs.length d.nc,.slice d.T d.takes.length d.tc,.string ⟨d.trick.toArray⟩] 75)) (w.heap.size + 1) 75 #[.string ⟨d.key.toArray⟩,.string ⟨d.src.toArray⟩,.string ⟨d.dst.toArray⟩,.int .i64 d.time,.slice d.N d.needs.length d.nc,.slice d.T d.takes.length d.tc,.string ⟨d.trick.toArray⟩]:=Blk.at_ _ (by simp)
 have HR:=Lib.hid hr
 have HT:=Lib.hid hth
 have HN:=Lib.hid hn
 have HG : Hid (goE tr room th d = if room ≠ d.src then 3 else if d.trick ≠ [] ∧ d.trick ∉ tr then 16 else if ¬ (∀ s ∈ d.needs,s ∈ th) then 11 else 0):=Lib.hid rfl
 clear hr hth hn
 go_enter Tryz.func107,Tryz.ntmps107
 go_upto_region 1 with (fail)
 generalize ((w.alloc (.cells #[.string ⟨room.toArray⟩,.slice P th.length pc] 52)).alloc (.cells #[.string ⟨d.key.toArray⟩,.string ⟨d.src.toArray⟩,.string ⟨d.dst.toArray⟩,.int .i64 d.time,.slice d.N d.needs.length d.nc,.slice d.T d.takes.length d.tc,.string ⟨d.trick.toArray⟩] 75)) = w0 at *
 obtain ⟨p0,p1⟩:=hp.two_
 obtain ⟨y0,y1,y2,y3,y4,y5,y6⟩:=hd.w7
 clear y0 y2 y3 y5
 by_cases c1 : room = d.src
 ·have e1 : (room == d.src) = true:=beq_iff_eq.2 c1
  have HG2 : Hid (goE tr room th d = if d.trick ≠ [] ∧ d.trick ∉ tr then 16 else if ¬ (∀ s ∈ d.needs,s ∈ th) then 11 else 0):=Lib.hid (by rw [HG.out,if_neg (fun h => h c1)])
  have hcon:=containsS_any TR c2 lo1 tr d.trick w0 (HR.out.below hb) hrl
  unfold encStr at hcon
  clear c1 HG
  obtain ⟨tb,htb⟩ : ∃ tb : Bool,tb = decide (d.trick ∈ tr):=⟨_,rfl⟩
  rw [← htb] at hcon
  have HTB:=Lib.hid htb
  clear htb
  have hcf:=dfX_any w.heap.size pc lo2 lo3 d.nc P d.N th d.needs w0 p1 (HT.out.below hb) hthl (HN.out.below hb) hnl
  rw [any_needs] at hcf
  obtain ⟨nb,hnb⟩ : ∃ nb : Bool,nb = decide (∀ s ∈ d.needs,s ∈ th):=⟨_,rfl⟩
  rw [← hnb] at hcf
  have HNB:=Lib.hid hnb
  clear hnb
  by_cases c2 : d.trick = []
  ·have e2 : (d.trick == []) = true:=beq_iff_eq.2 c2
   have e3 : d.trick.isEmpty = true:=by rw [c2]; rfl
   have HG3 : Hid (goE tr room th d = if nb = true then 0 else 11):=Lib.hid (by
    rw [HG2.out,if_neg (fun h => h.1 c2),HNB.out]
    by_cases hh : ∀ s ∈ d.needs,s ∈ th
    ·rw [if_neg (fun h => h hh),if_pos (decide_eq_true hh)]
    ·rw [if_pos hh,if_neg (by simpa using hh)])
   clear c2 hcon
   go_wp2_with fail
   refine hcf.mono ?_
   rintro e w2 ⟨rfl,hb2⟩
   clear hcf
   cases nb with
   | true =>
    go_wp2_with fail
    go_ret
    exact ⟨ret_int' HG3.out.symm,below_up hb hb2⟩
   | false =>
    go_wp2_with fail
    go_ret
    exact ⟨ret_int' HG3.out.symm,below_up hb hb2⟩
  ·have e2 : (d.trick == []) = false:=beq_eq_false_iff_ne.2 c2
   have e3 : d.trick.isEmpty = false:=by cases h : d.trick with | nil => exact absurd h c2 | cons a l => rfl
   have HC2:=Lib.hid c2
   clear c2
   go_wp2_with fail
   refine hcon.mono ?_
   rintro e w1 ⟨rfl,rfl⟩
   clear hcon
   cases tb with
   | true =>
    have HG3 : Hid (goE tr room th d = if nb = true then 0 else 11):=Lib.hid (by
     rw [HG2.out,if_neg (fun h => h.2 (of_decide_eq_true HTB.out.symm)),HNB.out]
     by_cases hh : ∀ s ∈ d.needs,s ∈ th
     ·rw [if_neg (fun h => h hh),if_pos (decide_eq_true hh)]
     ·rw [if_pos hh,if_neg (by simpa using hh)])
    go_wp2_with fail
    refine hcf.mono ?_
    rintro e w2 ⟨rfl,hb2⟩
    clear hcf
    cases nb with
    | true =>
     go_wp2_with fail
     go_ret
     exact ⟨ret_int' HG3.out.symm,below_up hb hb2⟩
    | false =>
     go_wp2_with fail
     go_ret
     exact ⟨ret_int' HG3.out.symm,below_up hb hb2⟩
   | false =>
    have HG3 : Hid (goE tr room th d = 16):=Lib.hid (by rw [HG2.out,if_pos ⟨HC2.out,of_decide_eq_false HTB.out.symm⟩])
    clear hcf
    go_wp2_with fail
    go_ret
    exact ⟨ret_int' HG3.out.symm,hb⟩
 ·have e1 : (room == d.src) = false:=beq_eq_false_iff_ne.2 c1
  have HG2 : Hid (goE tr room th d = 3):=Lib.hid (by rw [HG.out,if_pos c1])
  clear c1
  go_wp2_with fail
  go_ret
  exact ⟨ret_int' HG2.out.symm,hb⟩
theorem thC_any (x : List UInt8) (kb c lo : Nat) (A : Option Addr) (tk : List (List UInt8)) (w : World) (h1 : w.cell? ⟨kb,5,none⟩ = some (.slice A tk.length c)) (hr : Row w lo 1 A tk.length (strs tk)) (hl : tk.length ≤ 1000000000) :
  Calls Tryz.prog 144 #[encStr x,.pointer (some ⟨kb,0,none⟩)] w fun e w' => e = .returned (.bool (decide (x ∈ tk))) ∧ ∃ q,w' = w.drewN q:=by
 have hcon:=containsS_any A c lo tk x w hr hl
 unfold encStr at hcon ⊢
 go_enter Tryz.func144,Tryz.ntmps144
 go_wp2_with fail
 refine hcon.mono ?_
 rintro e w1 ⟨rfl,rfl⟩
 go_wp2_with fail
 go_ret
 exact ⟨rfl,0,rfl⟩
theorem delT_any (A DT : Option Addr) (c dc lo base kb : Nat) (zs tk : List (List UInt8)) (w0 w : World) (ho : w.ownsRow base 9 1 (.slice A zs.length c) zs.length (strs zs)) (hl : zs.length ≤ 1000000000) (hb : Below w0.heap.size w0 w) (hbase : w0.heap.size ≤ base)
  (HK : ∀ W,Below w0.heap.size w0 W → W.cell? ⟨kb,5,none⟩ = some (.slice DT tk.length dc) ∧ Row W lo 1 DT tk.length (strs tk)) (htl : tk.length ≤ 1000000000) :
  Calls Tryz.prog 88 #[.slice A zs.length c,.func (.func 144) #[] #[.pointer (some ⟨kb,0,none⟩)]] w fun e w' => e = .returned (.slice A (zs.filter fun x => !decide (x ∈ tk)).length c) ∧ w'.ownsRow base 9 1 (.slice A (zs.filter fun x => !decide (x ∈ tk)).length c) (zs.filter fun x => !decide (x ∈ tk)).length (strs (zs.filter fun x => !decide (x ∈ tk))) ∧ w.grownBy w' (Value.slice A zs.length c).ownBlock:=by
 have eg : ∀ args w,(callFunc 144 args).run Tryz.prog w = .ok (.enter 144 args) w:=enters_of Tryz.func144 (by kernel_rfl) rfl
 rcases ho.2 with ⟨hv,h0⟩ | ⟨g,cap,cur,hv,hg,hh,hcap,hm,hcs,ht⟩
 ·have hz : zs = []:=List.eq_nil_of_length_eq_zero h0
  subst hz
  injection hv with e1 _ e2
  subst e1 e2
  have hix:=AnyE.slices_IndexFunc_empty Tryz.layIdx none 0 (.func (.func 144) #[] #[.pointer (some ⟨kb,0,none⟩)]) w
  change Calls Tryz.prog 124 _ _ _ at hix
  simp only [List.length_nil,List.filter_nil]
  have HO:=Lib.hid ho
  clear ho hb HK
  go_enter Tryz.func88,Tryz.ntmps88
  go_wp2_with fail
  refine hix.mono ?_
  rintro e w1 ⟨rfl,rfl⟩
  clear hix
  go_wp2_with fail
  go_ret
  exact ⟨rfl,HO.out,World.grownBy.refl _ _⟩
 ·injection hv with e1 _ e2
  subst e1 e2
  rw [Nat.mul_one] at ht
  have hp : PredAt Tryz.prog 144 #[.pointer (some ⟨kb,0,none⟩)] encStr (fun x => decide (x ∈ tk)) w:=fun W x hW => by
   obtain ⟨k1,k2⟩:=HK W (hb.trans (hW.mono hb.size))
   exact thC_any x kb dc lo DT tk W k1 k2 htl
  have hpo : PredOver Tryz.prog 144 #[.pointer (some ⟨kb,0,none⟩)] encStr (fun x => decide (x ∈ tk)) g 0 zs.toArray.size w:=fun n os dk x _ => by
   have hgb : w.grownBy (sortWorld encStr w g 0 n dk os) (some g):=grownBy_sorted dk
   obtain ⟨k1,k2⟩:=HK _ (hb.grown hgb hb.size (fun q hq => by injection hq with hq; omega))
   exact thC_any x kb dc lo DT tk _ k1 k2 htl
  have:=AnyE.slices_DeleteFunc Tryz.layDel encStr oneS (fun x => decide (x ∈ tk)) 144 #[.pointer (some ⟨kb,0,none⟩)] eg [] (fun w => Tryz.zeroValue9 w) g 0 c zs.toArray w hp hpo (holds_of_block hh ht) (by simp; omega) (by simpa using hcap)
  rw [show zs.toArray.size = zs.length by simp,show zs.toArray.toList = zs by simp] at this
  refine this.mono ?_
  rintro e w' ⟨rfl,q,rfl⟩
  have hle : (zs.filter fun x => !decide (x ∈ tk)).length ≤ zs.length:=List.length_filter_le _ _
  rw [← grow_nil (putRow _ _ _ _ _)]
  refine ⟨rfl,⟨by simp [strs],.inr ⟨g,c,_,rfl,hg,heap_sorted _ hh,by omega,hm,by simp [putCells,hcs],?_⟩⟩,grownBy_sorted _⟩
  rw [Nat.mul_one]
  exact take_pad _ _ _ (by omega)
theorem res_thru (tmps : Array Value) (w : World) (g : Nat) (a b : Value) (ka : List UInt8) (B : Option Addr) (n c : Nat) (ha : a = .string ⟨ka.toArray⟩) (hb : b = .slice B n c) (hx : tmps.getD 6 undef = .pointer (some ⟨g,0,none⟩)) (f0 : w.cell? ⟨g,0,none⟩ = some a) (f1 : w.cell? ⟨g,1,none⟩ = some b) :
  (results Tryz.f108 tmps).run Tryz.prog w = .ok (.agg #[a,b]) w:=by
 have e : Tryz.f108.results = #[.cell 6 52]:=by kernel_rfl
 have hx' : tmps[6]?.getD undef = .pointer (some ⟨g,0,none⟩):=by simpa using hx
 subst ha hb
 simp [results,e,hx',go_sem,f0,f1]
set_option maxHeartbeats 8000000 in
set_option maxRecDepth 100000 in
theorem through_any (lo ca cd lo2 pc : Nat) (A : Option Addr) (rs : List RoomE) (D : Option Addr) (ds : List DoorE) (st gl : List UInt8) (P : Option Addr) (th : List (List UInt8)) (room : List UInt8) (d : DoorE) (w : World) (hA : MapW w lo A rs D ds) (hup : UpS (rs.map RoomE.key)) (hdst : d.dst ∈ rs.map RoomE.key) (hth : Row w lo2 1 P th.length (strs th)) (hthl : th.length ≤ 1000000) (htk : Row w lo 1 d.T d.takes.length (strs d.takes)) (htkl : d.takes.length ≤ 1000000) :
  Calls Tryz.prog 108 #[.agg #[.slice A rs.length ca,.slice D ds.length cd,.string ⟨st.toArray⟩,.string ⟨gl.toArray⟩],.agg #[.string ⟨room.toArray⟩,.slice P th.length pc],.agg #[.string ⟨d.key.toArray⟩,.string ⟨d.src.toArray⟩,.string ⟨d.dst.toArray⟩,.int .i64 d.time,.slice d.N d.needs.length d.nc,.slice d.T d.takes.length d.tc,.string ⟨d.trick.toArray⟩]] w (PtPost w d.dst (thru rs th d)):=by
 have hb4 : Below w.heap.size w ((((w.alloc (.cells #[.slice A rs.length ca,.slice D ds.length cd,.string ⟨st.toArray⟩,.string ⟨gl.toArray⟩] 29)).alloc (.cells #[.string ⟨room.toArray⟩,.slice P th.length pc] 52)).alloc (.cells #[.string ⟨d.key.toArray⟩,.string ⟨d.src.toArray⟩,.string ⟨d.dst.toArray⟩,.int .i64 d.time,.slice d.N d.needs.length d.nc,.slice d.T d.takes.length d.tc,.string ⟨d.trick.toArray⟩] 75)).alloc (.cells #[.string ⟨#[]⟩,.slice none 0 0] 52)):=(by repeat (first | exact Below.refl _ _ | refine Below.alloc ?_ (by first | omega | (simp; omega) | simp) _ | refine below_drewN' ?_ _ | refine Below.drew ?_))
 have hM : Blk ((((w.alloc (.cells #[.slice A rs.length ca,.slice D ds.length cd,.string ⟨st.toArray⟩,.string ⟨gl.toArray⟩] 29)).alloc (.cells #[.string ⟨room.toArray⟩,.slice P th.length pc] 52)).alloc (.cells #[.string ⟨d.key.toArray⟩,.string ⟨d.src.toArray⟩,.string ⟨d.dst.toArray⟩,.int .i64 d.time,.slice d.N d.needs.length d.nc,.slice d.T d.takes.length d.tc,.string ⟨d.trick.toArray⟩] 75)).alloc (.cells #[.string ⟨#[]⟩,.slice none 0 0] 52)) w.heap.size 29 #[.slice A rs.length ca,.slice D ds.length cd,.string ⟨st.toArray⟩,.string ⟨gl.toArray⟩]:=(((Blk.new _ _ _).alloc _).alloc _).alloc _
 have hP : Blk ((((w.alloc (.cells #[.slice A rs.length ca,.slice D ds.length cd,.string ⟨st.toArray⟩,.string ⟨gl.toArray⟩] 29)).alloc (.cells #[.string ⟨room.toArray⟩,.slice P th.length pc] 52)).alloc (.cells #[.string ⟨d.key.toArray⟩,.string ⟨d.src.toArray⟩,.string ⟨d.dst.toArray⟩,.int .i64 d.time,.slice d.N d.needs.length d.nc,.slice d.T d.takes.length d.tc,.string ⟨d.trick.toArray⟩] 75)).alloc (.cells #[.string ⟨#[]⟩,.slice none 0 0] 52)) (w.heap.size + 1) 52 #[.string ⟨room.toArray⟩,.slice P th.length pc]:=((Blk.at_ _ (by simp)).alloc _).alloc _
 have hD : Blk ((((w.alloc (.cells #[.slice A rs.length ca,.slice D ds.length cd,.string ⟨st.toArray⟩,.string ⟨gl.toArray⟩] 29)).alloc (.cells #[.string ⟨room.toArray⟩,.slice P th.length pc] 52)).alloc (.cells #[.string ⟨d.key.toArray⟩,.string ⟨d.src.toArray⟩,.string ⟨d.dst.toArray⟩,.int .i64 d.time,.slice d.N d.needs.length d.nc,.slice d.T d.takes.length d.tc,.string ⟨d.trick.toArray⟩] 75)).alloc (.cells #[.string ⟨#[]⟩,.slice none 0 0] 52)) (w.heap.size + 2) 75 #[.string ⟨d.key.toArray⟩,.string ⟨d.src.toArray⟩,.string ⟨d.dst.toArray⟩,.int .i64 d.time,.slice d.N d.needs.length d.nc,.slice d.T d.takes.length d.tc,.string ⟨d.trick.toArray⟩]:=(Blk.at_ _ (by simp)).alloc _
 have hR : Blk ((((w.alloc (.cells #[.slice A rs.length ca,.slice D ds.length cd,.string ⟨st.toArray⟩,.string ⟨gl.toArray⟩] 29)).alloc (.cells #[.string ⟨room.toArray⟩,.slice P th.length pc] 52)).alloc (.cells #[.string ⟨d.key.toArray⟩,.string ⟨d.src.toArray⟩,.string ⟨d.dst.toArray⟩,.int .i64 d.time,.slice d.N d.needs.length d.nc,.slice d.T d.takes.length d.tc,.string ⟨d.trick.toArray⟩] 75)).alloc (.cells #[.string ⟨#[]⟩,.slice none 0 0] 52)) (w.heap.size + 3) 52 #[.string ⟨#[]⟩,.slice none 0 0]:=Blk.at_ _ (by simp)
 have hi:=ixR_lt hdst
 have hrl:=hA.s.rl
 have HIX:=Lib.hid (roomI_mem hdst)
 obtain ⟨r,hr⟩ : ∃ r,r = rs[ixR rs d.dst]'hi:=⟨_,rfl⟩
 have hmem : r ∈ rs:=by rw [hr]; exact List.getElem_mem _
 have hgl:=(hA.s.rg _ hmem).1
 have HGV : Hid (r.gives = givesOf rs d.dst):=Lib.hid (by rw [hr]; exact ixR_gives hup hdst)
 obtain ⟨fl,hfl⟩ : ∃ fl,fl = th.filter (fun s => decide (s ∉ d.takes)):=⟨_,rfl⟩
 have HFL : Hid ((th.filter fun x => !decide (x ∈ d.takes)) = fl):=Lib.hid (by rw [hfl]; refine List.filter_congr fun x _ => ?_; simp)
 have hfll : fl.length ≤ 1000000:=by
  have:=List.length_filter_le (fun s => decide (s ∉ d.takes)) th
  rw [hfl]; omega
 obtain ⟨res,hres⟩ : ∃ res,thru rs th d = res:=⟨_,rfl⟩
 rw [hres]
 have HTH : Hid (onceT (fl ++ r.gives) = res):=Lib.hid (by rw [← hres,hfl,HGV.out]; rfl)
 clear hfl hres
 obtain ⟨ab,aoff,rfl,hab,hcell⟩:=hA.room (by omega)
 have hc1:=(hcell _ hi).2
 rw [← hr] at hc1
 have HK : Hid (∀ W,Below ((((w.alloc (.cells #[.slice (some ⟨ab,aoff,none⟩) rs.length ca,.slice D ds.length cd,.string ⟨st.toArray⟩,.string ⟨gl.toArray⟩] 29)).alloc (.cells #[.string ⟨room.toArray⟩,.slice P th.length pc] 52)).alloc (.cells #[.string ⟨d.key.toArray⟩,.string ⟨d.src.toArray⟩,.string ⟨d.dst.toArray⟩,.int .i64 d.time,.slice d.N d.needs.length d.nc,.slice d.T d.takes.length d.tc,.string ⟨d.trick.toArray⟩] 75)).alloc (.cells #[.string ⟨#[]⟩,.slice none 0 0] 52)).heap.size ((((w.alloc (.cells #[.slice (some ⟨ab,aoff,none⟩) rs.length ca,.slice D ds.length cd,.string ⟨st.toArray⟩,.string ⟨gl.toArray⟩] 29)).alloc (.cells #[.string ⟨room.toArray⟩,.slice P th.length pc] 52)).alloc (.cells #[.string ⟨d.key.toArray⟩,.string ⟨d.src.toArray⟩,.string ⟨d.dst.toArray⟩,.int .i64 d.time,.slice d.N d.needs.length d.nc,.slice d.T d.takes.length d.tc,.string ⟨d.trick.toArray⟩] 75)).alloc (.cells #[.string ⟨#[]⟩,.slice none 0 0] 52)) W → MapW W lo (some ⟨ab,aoff,none⟩) rs D ds ∧ Row W lo 1 r.B r.gives.length (strs r.gives) ∧ (W.cell? ⟨w.heap.size + 2,5,none⟩ = some (.slice d.T d.takes.length d.tc) ∧ Row W lo 1 d.T d.takes.length (strs d.takes))):=Lib.hid (fun W hW => by
  have hw : Below w.heap.size w W:=hb4.trans (hW.mono hb4.size)
  exact ⟨hA.below hw,((hA.below hw).gives _ hmem).1,(hD.below hW).w7.2.2.2.2.2.1,htk.below hw⟩)
 have HS : Hid (∀ W,Below ((((w.alloc (.cells #[.slice (some ⟨ab,aoff,none⟩) rs.length ca,.slice D ds.length cd,.string ⟨st.toArray⟩,.string ⟨gl.toArray⟩] 29)).alloc (.cells #[.string ⟨room.toArray⟩,.slice P th.length pc] 52)).alloc (.cells #[.string ⟨d.key.toArray⟩,.string ⟨d.src.toArray⟩,.string ⟨d.dst.toArray⟩,.int .i64 d.time,.slice d.N d.needs.length d.nc,.slice d.T d.takes.length d.tc,.string ⟨d.trick.toArray⟩] 75)).alloc (.cells #[.string ⟨#[]⟩,.slice none 0 0] 52)).heap.size ((((w.alloc (.cells #[.slice (some ⟨ab,aoff,none⟩) rs.length ca,.slice D ds.length cd,.string ⟨st.toArray⟩,.string ⟨gl.toArray⟩] 29)).alloc (.cells #[.string ⟨room.toArray⟩,.slice P th.length pc] 52)).alloc (.cells #[.string ⟨d.key.toArray⟩,.string ⟨d.src.toArray⟩,.string ⟨d.dst.toArray⟩,.int .i64 d.time,.slice d.N d.needs.length d.nc,.slice d.T d.takes.length d.tc,.string ⟨d.trick.toArray⟩] 75)).alloc (.cells #[.string ⟨#[]⟩,.slice none 0 0] 52)) W → (fun w' : World => w'.cell? ⟨w.heap.size,0,none⟩ = some (.slice (some ⟨ab,aoff,none⟩) rs.length ca) ∧ w'.cell? ⟨w.heap.size,1,none⟩ = some (.slice D ds.length cd) ∧ w'.cell? ⟨w.heap.size,2,none⟩ = some (.string ⟨st.toArray⟩) ∧ w'.cell? ⟨w.heap.size,3,none⟩ = some (.string ⟨gl.toArray⟩) ∧ w'.cell? ⟨w.heap.size + 2,2,none⟩ = some (.string ⟨d.dst.toArray⟩) ∧ w'.cell? ⟨ab,aoff + ixR rs d.dst * 2 + 1,none⟩ = some (.slice r.B r.gives.length r.c)) W):=Lib.hid (fun W hW => by
  have hw : Below w.heap.size w W:=hb4.trans (hW.mono hb4.size)
  have hm:=hM.below hW
  exact ⟨hm.cell 0,hm.cell 1,hm.cell 2,hm.cell 3,(hD.below hW).cell 2,(hw.cell (p:=⟨ab,aoff + ixR rs d.dst * 2 + 1,none⟩) hab).trans hc1⟩)
 have HRS : Hid (∀ W,Below ((((w.alloc (.cells #[.slice (some ⟨ab,aoff,none⟩) rs.length ca,.slice D ds.length cd,.string ⟨st.toArray⟩,.string ⟨gl.toArray⟩] 29)).alloc (.cells #[.string ⟨room.toArray⟩,.slice P th.length pc] 52)).alloc (.cells #[.string ⟨d.key.toArray⟩,.string ⟨d.src.toArray⟩,.string ⟨d.dst.toArray⟩,.int .i64 d.time,.slice d.N d.needs.length d.nc,.slice d.T d.takes.length d.tc,.string ⟨d.trick.toArray⟩] 75)).alloc (.cells #[.string ⟨#[]⟩,.slice none 0 0] 52)).heap.size ((((w.alloc (.cells #[.slice (some ⟨ab,aoff,none⟩) rs.length ca,.slice D ds.length cd,.string ⟨st.toArray⟩,.string ⟨gl.toArray⟩] 29)).alloc (.cells #[.string ⟨room.toArray⟩,.slice P th.length pc] 52)).alloc (.cells #[.string ⟨d.key.toArray⟩,.string ⟨d.src.toArray⟩,.string ⟨d.dst.toArray⟩,.int .i64 d.time,.slice d.N d.needs.length d.nc,.slice d.T d.takes.length d.tc,.string ⟨d.trick.toArray⟩] 75)).alloc (.cells #[.string ⟨#[]⟩,.slice none 0 0] 52)) W → Blk W (w.heap.size + 3) 52 #[.string ⟨#[]⟩,.slice none 0 0]):=Lib.hid (fun W hW => hR.below hW)
 have HTW:=Lib.hid (hth.below hb4)
 have hz4 : w.heap.size + 3 < ((((w.alloc (.cells #[.slice (some ⟨ab,aoff,none⟩) rs.length ca,.slice D ds.length cd,.string ⟨st.toArray⟩,.string ⟨gl.toArray⟩] 29)).alloc (.cells #[.string ⟨room.toArray⟩,.slice P th.length pc] 52)).alloc (.cells #[.string ⟨d.key.toArray⟩,.string ⟨d.src.toArray⟩,.string ⟨d.dst.toArray⟩,.int .i64 d.time,.slice d.N d.needs.length d.nc,.slice d.T d.takes.length d.tc,.string ⟨d.trick.toArray⟩] 75)).alloc (.cells #[.string ⟨#[]⟩,.slice none 0 0] 52)).heap.size:=hR.lt
 obtain ⟨-,p1⟩:=hP.two_
 have hi0 : (0 : Int) ≤ (ixR rs d.dst : Int):=by omega
 have hi1 : (ixR rs d.dst : Int) < (rs.length : Int):=by omega
 have hab4 : ab < w.heap.size:=hab
 clear hA hth htk hcell hM hP hD hR hc1 hmem hr hup
 go_enter Tryz.func108,Tryz.ntmps108
 go_upto_region 1 with (fail)
 generalize ((((w.alloc (.cells #[.slice (some ⟨ab,aoff,none⟩) rs.length ca,.slice D ds.length cd,.string ⟨st.toArray⟩,.string ⟨gl.toArray⟩] 29)).alloc (.cells #[.string ⟨room.toArray⟩,.slice P th.length pc] 52)).alloc (.cells #[.string ⟨d.key.toArray⟩,.string ⟨d.src.toArray⟩,.string ⟨d.dst.toArray⟩,.int .i64 d.time,.slice d.N d.needs.length d.nc,.slice d.T d.takes.length d.tc,.string ⟨d.trick.toArray⟩] 75)).alloc (.cells #[.string ⟨#[]⟩,.slice none 0 0] 52)) = w4 at *
 go_wp2_with fail
 refine (cloneS_any P pc lo2 th _ HTW.out (by omega)).mono ?_
 rintro e w5 ⟨A5,c5,rfl,ho5,hb5⟩
 have hdl:=delT_any A5 d.T c5 d.tc lo w4.heap.size (w.heap.size + 2) th d.takes w4 w5 ho5 (by omega) hb5 (Nat.le_refl _) (fun W hW => (HK.out W hW).2.2) (by omega)
 rw [HFL.out] at hdl
 clear p1
 go_wp2_with fail
 refine hdl.mono ?_
 rintro e w6 ⟨rfl,hown,hg6⟩
 have hbx : Below w4.heap.size w4 w6:=hb5.grown hg6 hb5.size (fun q hq => (ho5.lt q hq).1)
 clear hdl ho5 hb5 hg6
 have hsc:=HS.out _ hbx
 go_upto_region 2 with (fail)
 have hsc : (fun w' : World => w'.cell? ⟨w.heap.size,0,none⟩ = some (.slice (some ⟨ab,aoff,none⟩) rs.length ca) ∧ w'.cell? ⟨w.heap.size,1,none⟩ = some (.slice D ds.length cd) ∧ w'.cell? ⟨w.heap.size,2,none⟩ = some (.string ⟨st.toArray⟩) ∧ w'.cell? ⟨w.heap.size,3,none⟩ = some (.string ⟨gl.toArray⟩) ∧ w'.cell? ⟨w.heap.size + 2,2,none⟩ = some (.string ⟨d.dst.toArray⟩) ∧ w'.cell? ⟨ab,aoff + ixR rs d.dst * 2 + 1,none⟩ = some (.slice r.B r.gives.length r.c)) w6.drew:=hsc
 replace hbx : Below w4.heap.size w4 w6.drew:=hbx.drew
 replace hown : w6.drew.ownsRow w4.heap.size 9 1 (.slice A5 fl.length c5) fl.length (strs fl):=hown
 refine wp_region_held_drew (S:=(fun w' => w'.cell? ⟨w.heap.size,0,none⟩ = some (.slice (some ⟨ab,aoff,none⟩) rs.length ca) ∧ w'.cell? ⟨w.heap.size,1,none⟩ = some (.slice D ds.length cd) ∧ w'.cell? ⟨w.heap.size,2,none⟩ = some (.string ⟨st.toArray⟩) ∧ w'.cell? ⟨w.heap.size,3,none⟩ = some (.string ⟨gl.toArray⟩) ∧ w'.cell? ⟨w.heap.size + 2,2,none⟩ = some (.string ⟨d.dst.toArray⟩) ∧ w'.cell? ⟨ab,aoff + ixR rs d.dst * 2 + 1,none⟩ = some (.slice r.B r.gives.length r.c))) (by kernel_rfl) (hsc) (fun hHeld => ?_)
 (refine wpAnyH_take (i:=0) (v:=?_) (by (simp only [Q0,Q2]; rfl)) (by kernel_rfl) (by kernel_rfl) (by kernel_rfl) (by exact fun _ _ _ h => h) (Or.inl ⟨by rfl,?_⟩) (by assumption) ?_; (rotate_left 1; (intro w hSw; (try dsimp only at hSw); go_simp); (try with_reducible rfl)); (try simp only [Act.put,Q3,Q4,Q5]))
 (refine wpAnyH_take (i:=1) (v:=?_) (by (simp only [Q0,Q1,Q2]; rfl)) (by kernel_rfl) (by kernel_rfl) (by kernel_rfl) (by exact fun _ _ _ h => h) (Or.inl ⟨by rfl,?_⟩) (by assumption) ?_; (rotate_left 1; (intro w hSw; (try dsimp only at hSw); go_simp); (try with_reducible rfl)); (try simp only [Act.put,Q3,Q4,Q5]))
 (refine wpAnyH_take (i:=2) (v:=?_) (by (simp only [Q0,Q1,Q2]; rfl)) (by kernel_rfl) (by kernel_rfl) (by kernel_rfl) (by exact fun _ _ _ h => h) (Or.inl ⟨by rfl,?_⟩) (by assumption) ?_; (rotate_left 1; (intro w hSw; (try dsimp only at hSw); go_simp); (try with_reducible rfl)); (try simp only [Act.put,Q3,Q4,Q5]))
 (refine wpAnyH_take (i:=3) (v:=?_) (by (simp only [Q0,Q1,Q2]; rfl)) (by kernel_rfl) (by kernel_rfl) (by kernel_rfl) (by exact fun _ _ _ h => h) (Or.inl ⟨by rfl,?_⟩) (by assumption) ?_; (rotate_left 1; (intro w hSw; (try dsimp only at hSw); go_simp); (try with_reducible rfl)); (try simp only [Act.put,Q3,Q4,Q5]))
 (refine wpAnyH_take (i:=4) (v:=?_) (by (simp only [Q0,Q1,Q2]; rfl)) (by kernel_rfl) (by kernel_rfl) (by kernel_rfl) (by exact fun _ _ _ h => h) (Or.inl ⟨by rfl,?_⟩) (by assumption) ?_; (rotate_left 1; (intro w hSw; (try dsimp only at hSw); go_simp); (try with_reducible rfl)); (try simp only [Act.put,Q3,Q4,Q5]))
 (refine wpAnyH_take (i:=5) (v:=?_) (by (simp only [Q0,Q1,Q2]; rfl)) (by kernel_rfl) (by kernel_rfl) (by kernel_rfl) (by exact fun _ _ _ h => h) (Or.inl ⟨by rfl,?_⟩) (by assumption) ?_; (rotate_left 1; (intro w hSw; (try dsimp only at hSw); go_simp); (try with_reducible rfl)); (try simp only [Act.put,Q3,Q4,Q5]))
 (refine wpAnyH_take (i:=6) (v:=?_) (by (simp only [Q0,Q1,Q2]; rfl)) (by kernel_rfl) (by kernel_rfl) (by kernel_rfl) (by exact fun _ _ _ h => h) (Or.inl ⟨by rfl,?_⟩) (by assumption) ?_; (rotate_left 1; (intro w hSw; (try dsimp only at hSw); go_simp); (try with_reducible rfl)); (try simp only [Act.put,Q3,Q4,Q5]))
 (refine wpAnyH_take (i:=7) (v:=?_) (by (simp only [Q0,Q1,Q2]; rfl)) (by kernel_rfl) (by kernel_rfl) (by kernel_rfl) (by exact fun _ _ _ h => h) (Or.inl ⟨by rfl,?_⟩) (by assumption) ?_; (rotate_left 1; (intro w hSw; (try dsimp only at hSw); go_simp); (try with_reducible rfl)); (try simp only [Act.put,Q3,Q4,Q5]))
 refine wpAnyH_ready (rs:=[8]) (by kernel_rfl) (by simp) ?_
 refine AllReadyH.cons rfl (fun K hK => ?_) AllReadyH.nil
 go_simp
 go_at_call 25
 have hra:=rRoomAt_any lo ca cd (some ⟨ab,aoff,none⟩) rs D ds st gl d.dst _ (HK.out _ hbx).1
 unfold mapV at hra
 simp only [encStr] at hra
 rw [show keyI (rs.map RoomE.key) d.dst = (ixR rs d.dst : Int) from HIX.out] at hra
 refine hra.mono ?_
 rintro e wa ⟨rfl,hb⟩
 clear hra
 replace hbx:=hbx.trans (hb.mono hbx.size)
 have hown:=own_keep hown hb
 have hsc:=HS.out _ hbx
 have hga:=(HK.out _ hbx).2.1
 clear hb
 go_wp2_with fail
 refine hK.out _ _ (hsc) (fun hHeld => ?_)
 clear hK K
 (try simp only [Act.put,Q3,Q4,Q5])
 (refine wpAnyH_take (i:=9) (v:=?_) (by (simp only [Q0,Q1,Q2]; rfl)) (by kernel_rfl) (by kernel_rfl) (by kernel_rfl) (by exact fun _ _ _ h => h) (Or.inl ⟨by rfl,?_⟩) (by assumption) ?_; (rotate_left 1; (intro w hSw; (try dsimp only at hSw); go_simp); (try with_reducible rfl)); (try simp only [Act.put,Q3,Q4,Q5]))
 (refine wpAnyH_take (i:=10) (v:=?_) (by (simp only [Q0,Q1,Q2]; rfl)) (by kernel_rfl) (by kernel_rfl) (by kernel_rfl) (by exact fun _ _ _ h => h) (Or.inl ⟨by rfl,?_⟩) (by assumption) ?_; (rotate_left 1; (intro w hSw; (try dsimp only at hSw); go_simp); (try with_reducible rfl)); (try simp only [Act.put,Q3,Q4,Q5]))
 (refine wpAnyH_take (i:=11) (v:=?_) (by (simp only [Q0,Q1,Q2]; rfl)) (by kernel_rfl) (by kernel_rfl) (by kernel_rfl) (by exact fun _ _ _ h => h) (Or.inl ⟨by rfl,?_⟩) (by assumption) ?_; (rotate_left 1; (intro w hSw; (try dsimp only at hSw); go_simp); (try with_reducible rfl)); (try simp only [Act.put,Q3,Q4,Q5]))
 refine wpAnyH_ready (rs:=[12]) (by kernel_rfl) (by simp) ?_
 refine AllReadyH.cons rfl (fun K hK => ?_) AllReadyH.nil
 refine step_app (lo:=lo) (base:=w4.heap.size) (n:=fl.length) (xs:=strs fl) _ rfl _ _ ty_strs rfl hown rfl hga rfl (strs_all _) (by omega) (by omega) hbx.size ?_
 intro A6 c6 w6 hown6 hg6 _
 replace hbx:=hbx.grown hg6 hbx.size (fun q hq => (hown.lt q hq).1)
 have hsc:=HS.out _ hbx
 have HO6 : Hid (Row w6 w4.heap.size 1 A6 (fl ++ r.gives).length (strs (fl ++ r.gives))):=Lib.hid (Row.of_own (by simpa [strs] using hown6))
 clear hown6 hg6 hown hga
 refine hK.out _ _ (hsc) (fun hHeld => ?_)
 clear hK K
 (try simp only [Act.put,Q3,Q4,Q5])
 refine wpAnyH_ready (rs:=[13]) (by kernel_rfl) (by simp) ?_
 refine AllReadyH.cons rfl (fun K hK => ?_) AllReadyH.nil
 go_simp
 go_at_call 34
 have hon:=onceR_any A6 c6 w4.heap.size (fl ++ r.gives) w6 HO6.out (by rw [List.length_append]; omega)
 rw [HTH.out,List.length_append] at hon
 refine hon.mono ?_
 rintro e w7 ⟨A7,c7,rfl,ho7,hb7⟩
 clear hon
 have HO7 : Hid (Row w7 w4.heap.size 1 A7 res.length (strs res)):=Lib.hid (Row.of_own (own_down9 ho7 hbx.size))
 replace hbx:=hbx.trans (hb7.mono hbx.size)
 have hsc:=HS.out _ hbx
 clear ho7 hb7
 go_wp2_with fail
 refine hK.out _ _ (hsc) (fun hHeld => ?_)
 clear hK K
 (try simp only [Act.put,Q3,Q4,Q5])
 (refine wpAnyH_take (i:=14) (v:=?_) (by (simp only [Q0,Q1,Q2]; rfl)) (by kernel_rfl) (by kernel_rfl) (by kernel_rfl) (by exact fun _ _ _ h => h) (Or.inl ⟨by rfl,?_⟩) (by assumption) ?_; (rotate_left 1; (intro w hSw; (try dsimp only at hSw); go_simp); (try with_reducible rfl)); (try simp only [Act.put,Q3,Q4,Q5]))
 refine wpAnyH_ready (rs:=[15]) (by kernel_rfl) (by simp) ?_
 refine AllReadyH.cons rfl (fun K hK => ?_) AllReadyH.nil
 have hr7:=HRS.out w7 hbx
 have z0 : w7.cell? ⟨w.heap.size + 3,0,none⟩ = some (.string ⟨#[]⟩):=hr7.cell 0
 have z1 : w7.cell? ⟨w.heap.size + 3,1,none⟩ = some (.slice none 0 0):=hr7.cell 1
 have f0:=hr7.thaw 0
 have f1:=hr7.thaw 1
 have hz7:=hbx.size
 have hr8:=(hr7.poke 0 (.string ⟨d.dst.toArray⟩)).poke 1 (.slice A7 res.length c7)
 have hb8 : Below w.heap.size w ((w7.setCell ⟨w.heap.size + 3,0,none⟩ (.string ⟨d.dst.toArray⟩)).setCell ⟨w.heap.size + 3,1,none⟩ (.slice A7 res.length c7)):=Below.setCell (Below.setCell (hb4.trans (hbx.mono hb4.size)) (by simp) _) (by simp) _
 have HR8 : Hid (Row ((w7.setCell ⟨w.heap.size + 3,0,none⟩ (.string ⟨d.dst.toArray⟩)).setCell ⟨w.heap.size + 3,1,none⟩ (.slice A7 res.length c7)) w.heap.size 1 A7 res.length (strs res)):=Lib.hid (((HO7.out.set_low _ 0 _ hz4).set_low _ 1 _ hz4).weak hb4.size)
 have hs8 : (fun w' : World => w'.cell? ⟨w.heap.size,0,none⟩ = some (.slice (some ⟨ab,aoff,none⟩) rs.length ca) ∧ w'.cell? ⟨w.heap.size,1,none⟩ = some (.slice D ds.length cd) ∧ w'.cell? ⟨w.heap.size,2,none⟩ = some (.string ⟨st.toArray⟩) ∧ w'.cell? ⟨w.heap.size,3,none⟩ = some (.string ⟨gl.toArray⟩) ∧ w'.cell? ⟨w.heap.size + 2,2,none⟩ = some (.string ⟨d.dst.toArray⟩) ∧ w'.cell? ⟨ab,aoff + ixR rs d.dst * 2 + 1,none⟩ = some (.slice r.B r.gives.length r.c)) ((w7.setCell ⟨w.heap.size + 3,0,none⟩ (.string ⟨d.dst.toArray⟩)).setCell ⟨w.heap.size + 3,1,none⟩ (.slice A7 res.length c7)):=by
  obtain ⟨a1,a2,a3,a4,a5,a6⟩:=hsc
  exact ⟨cell_off (cell_off a1 (by simp)) (by simp),cell_off (cell_off a2 (by simp)) (by simp),cell_off (cell_off a3 (by simp)) (by simp),cell_off (cell_off a4 (by simp)) (by simp),cell_off (cell_off a5 (by simp)) (by simp),cell_off (cell_off a6 (by simp; omega)) (by simp; omega)⟩
 go_simp
 refine hK.out _ _ (hs8) (fun hHeld => ?_)
 clear hK K
 (try simp only [Act.put,Q3,Q4,Q5])
 refine wpAnyH_done (by kernel_rfl) ?_ _
 go_wp2_with fail
 refine bodyPost_ret (res_thru _ _ (w.heap.size + 3) _ _ d.dst A7 res.length c7 rfl rfl rfl (hr8.cell 0) (hr8.cell 1)) rfl ?_
 exact ⟨A7,c7,rfl,HR8.out,hb8⟩
theorem res_first (tmps : Array Value) (w : World) (g : Nat) (a b : Value) (ka : List UInt8) (B : Option Addr) (n c : Nat) (ha : a = .string ⟨ka.toArray⟩) (hb : b = .slice B n c) (hx : tmps.getD 2 undef = .pointer (some ⟨g,0,none⟩)) (f0 : w.cell? ⟨g,0,none⟩ = some a) (f1 : w.cell? ⟨g,1,none⟩ = some b) :
  (results Tryz.f105 tmps).run Tryz.prog w = .ok (.agg #[a,b]) w:=by
 have e : Tryz.f105.results = #[.cell 2 52]:=by kernel_rfl
 have hx' : tmps[2]?.getD undef = .pointer (some ⟨g,0,none⟩):=by simpa using hx
 subst ha hb
 simp [results,e,hx',go_sem,f0,f1]
set_option maxHeartbeats 8000000 in
set_option maxRecDepth 100000 in
theorem firstPoint_any (lo ca cd : Nat) (A : Option Addr) (rs : List RoomE) (D : Option Addr) (ds : List DoorE) (st gl : List UInt8) (w : World) (hA : MapW w lo A rs D ds) (hup : UpS (rs.map RoomE.key)) (hst : st ∈ rs.map RoomE.key) :
  Calls Tryz.prog 105 #[.agg #[.slice A rs.length ca,.slice D ds.length cd,.string ⟨st.toArray⟩,.string ⟨gl.toArray⟩]] w (PtPost w st (onceT (givesOf rs st))):=by
 have hb4 : Below w.heap.size w ((w.alloc (.cells #[.slice A rs.length ca,.slice D ds.length cd,.string ⟨st.toArray⟩,.string ⟨gl.toArray⟩] 29)).alloc (.cells #[.string ⟨#[]⟩,.slice none 0 0] 52)):=(by repeat (first | exact Below.refl _ _ | refine Below.alloc ?_ (by first | omega | (simp; omega) | simp) _ | refine below_drewN' ?_ _ | refine Below.drew ?_))
 have hM : Blk ((w.alloc (.cells #[.slice A rs.length ca,.slice D ds.length cd,.string ⟨st.toArray⟩,.string ⟨gl.toArray⟩] 29)).alloc (.cells #[.string ⟨#[]⟩,.slice none 0 0] 52)) w.heap.size 29 #[.slice A rs.length ca,.slice D ds.length cd,.string ⟨st.toArray⟩,.string ⟨gl.toArray⟩]:=(Blk.new _ _ _).alloc _
 have hR : Blk ((w.alloc (.cells #[.slice A rs.length ca,.slice D ds.length cd,.string ⟨st.toArray⟩,.string ⟨gl.toArray⟩] 29)).alloc (.cells #[.string ⟨#[]⟩,.slice none 0 0] 52)) (w.heap.size + 1) 52 #[.string ⟨#[]⟩,.slice none 0 0]:=Blk.at_ _ (by simp)
 have hi:=ixR_lt hst
 have hrl:=hA.s.rl
 have HIX:=Lib.hid (roomI_mem hst)
 obtain ⟨r,hr⟩ : ∃ r,r = rs[ixR rs st]'hi:=⟨_,rfl⟩
 have hmem : r ∈ rs:=by rw [hr]; exact List.getElem_mem _
 have hgl:=(hA.s.rg _ hmem).1
 obtain ⟨res,hres⟩ : ∃ res,onceT (givesOf rs st) = res:=⟨_,rfl⟩
 rw [hres]
 have HTH : Hid (onceT r.gives = res):=Lib.hid (by rw [← hres,hr,ixR_gives hup hst])
 obtain ⟨ab,aoff,rfl,hab,hcell⟩:=hA.room (by omega)
 have hc1:=(hcell _ hi).2
 rw [← hr] at hc1
 have HK : Hid (∀ W,Below ((w.alloc (.cells #[.slice (some ⟨ab,aoff,none⟩) rs.length ca,.slice D ds.length cd,.string ⟨st.toArray⟩,.string ⟨gl.toArray⟩] 29)).alloc (.cells #[.string ⟨#[]⟩,.slice none 0 0] 52)).heap.size ((w.alloc (.cells #[.slice (some ⟨ab,aoff,none⟩) rs.length ca,.slice D ds.length cd,.string ⟨st.toArray⟩,.string ⟨gl.toArray⟩] 29)).alloc (.cells #[.string ⟨#[]⟩,.slice none 0 0] 52)) W → MapW W lo (some ⟨ab,aoff,none⟩) rs D ds ∧ Row W lo 1 r.B r.gives.length (strs r.gives)):=Lib.hid (fun W hW => by
  have hw : Below w.heap.size w W:=hb4.trans (hW.mono hb4.size)
  exact ⟨hA.below hw,((hA.below hw).gives _ hmem).1⟩)
 have HS : Hid (∀ W,Below ((w.alloc (.cells #[.slice (some ⟨ab,aoff,none⟩) rs.length ca,.slice D ds.length cd,.string ⟨st.toArray⟩,.string ⟨gl.toArray⟩] 29)).alloc (.cells #[.string ⟨#[]⟩,.slice none 0 0] 52)).heap.size ((w.alloc (.cells #[.slice (some ⟨ab,aoff,none⟩) rs.length ca,.slice D ds.length cd,.string ⟨st.toArray⟩,.string ⟨gl.toArray⟩] 29)).alloc (.cells #[.string ⟨#[]⟩,.slice none 0 0] 52)) W → (fun w' : World => w'.cell? ⟨w.heap.size,0,none⟩ = some (.slice (some ⟨ab,aoff,none⟩) rs.length ca) ∧ w'.cell? ⟨w.heap.size,1,none⟩ = some (.slice D ds.length cd) ∧ w'.cell? ⟨w.heap.size,2,none⟩ = some (.string ⟨st.toArray⟩) ∧ w'.cell? ⟨w.heap.size,3,none⟩ = some (.string ⟨gl.toArray⟩) ∧ w'.cell? ⟨ab,aoff + ixR rs st * 2 + 1,none⟩ = some (.slice r.B r.gives.length r.c)) W):=Lib.hid (fun W hW => by
  have hw : Below w.heap.size w W:=hb4.trans (hW.mono hb4.size)
  have hm:=hM.below hW
  exact ⟨hm.cell 0,hm.cell 1,hm.cell 2,hm.cell 3,(hw.cell (p:=⟨ab,aoff + ixR rs st * 2 + 1,none⟩) hab).trans hc1⟩)
 have HRS : Hid (∀ W,Below ((w.alloc (.cells #[.slice (some ⟨ab,aoff,none⟩) rs.length ca,.slice D ds.length cd,.string ⟨st.toArray⟩,.string ⟨gl.toArray⟩] 29)).alloc (.cells #[.string ⟨#[]⟩,.slice none 0 0] 52)).heap.size ((w.alloc (.cells #[.slice (some ⟨ab,aoff,none⟩) rs.length ca,.slice D ds.length cd,.string ⟨st.toArray⟩,.string ⟨gl.toArray⟩] 29)).alloc (.cells #[.string ⟨#[]⟩,.slice none 0 0] 52)) W → Blk W (w.heap.size + 1) 52 #[.string ⟨#[]⟩,.slice none 0 0]):=Lib.hid (fun W hW => hR.below hW)
 have hz4 : w.heap.size + 1 < ((w.alloc (.cells #[.slice (some ⟨ab,aoff,none⟩) rs.length ca,.slice D ds.length cd,.string ⟨st.toArray⟩,.string ⟨gl.toArray⟩] 29)).alloc (.cells #[.string ⟨#[]⟩,.slice none 0 0] 52)).heap.size:=hR.lt
 have hi0 : (0 : Int) ≤ (ixR rs st : Int):=by omega
 have hi1 : (ixR rs st : Int) < (rs.length : Int):=by omega
 have hbx : Below ((w.alloc (.cells #[.slice (some ⟨ab,aoff,none⟩) rs.length ca,.slice D ds.length cd,.string ⟨st.toArray⟩,.string ⟨gl.toArray⟩] 29)).alloc (.cells #[.string ⟨#[]⟩,.slice none 0 0] 52)).heap.size ((w.alloc (.cells #[.slice (some ⟨ab,aoff,none⟩) rs.length ca,.slice D ds.length cd,.string ⟨st.toArray⟩,.string ⟨gl.toArray⟩] 29)).alloc (.cells #[.string ⟨#[]⟩,.slice none 0 0] 52)) ((w.alloc (.cells #[.slice (some ⟨ab,aoff,none⟩) rs.length ca,.slice D ds.length cd,.string ⟨st.toArray⟩,.string ⟨gl.toArray⟩] 29)).alloc (.cells #[.string ⟨#[]⟩,.slice none 0 0] 52)).drew:=below_drewN' (Below.refl _ _) 1
 have hsc:=HS.out _ hbx
 clear hA hcell hM hR hc1 hmem hr hup hres
 go_enter Tryz.func105,Tryz.ntmps105
 go_upto_region 1 with (fail)
 generalize ((w.alloc (.cells #[.slice (some ⟨ab,aoff,none⟩) rs.length ca,.slice D ds.length cd,.string ⟨st.toArray⟩,.string ⟨gl.toArray⟩] 29)).alloc (.cells #[.string ⟨#[]⟩,.slice none 0 0] 52)) = w4 at *
 refine wp_region_held_drew (S:=(fun w' => w'.cell? ⟨w.heap.size,0,none⟩ = some (.slice (some ⟨ab,aoff,none⟩) rs.length ca) ∧ w'.cell? ⟨w.heap.size,1,none⟩ = some (.slice D ds.length cd) ∧ w'.cell? ⟨w.heap.size,2,none⟩ = some (.string ⟨st.toArray⟩) ∧ w'.cell? ⟨w.heap.size,3,none⟩ = some (.string ⟨gl.toArray⟩) ∧ w'.cell? ⟨ab,aoff + ixR rs st * 2 + 1,none⟩ = some (.slice r.B r.gives.length r.c))) (by kernel_rfl) (hsc) (fun hHeld => ?_)
 (refine wpAnyH_take (i:=0) (v:=?_) (by (simp only [Q0,Q2]; rfl)) (by kernel_rfl) (by kernel_rfl) (by kernel_rfl) (by exact fun _ _ _ h => h) (Or.inl ⟨by rfl,?_⟩) (by assumption) ?_; (rotate_left 1; (intro w hSw; (try dsimp only at hSw); go_simp); (try with_reducible rfl)); (try simp only [Act.put,Q3,Q4,Q5]))
 (refine wpAnyH_take (i:=1) (v:=?_) (by (simp only [Q0,Q1,Q2]; rfl)) (by kernel_rfl) (by kernel_rfl) (by kernel_rfl) (by exact fun _ _ _ h => h) (Or.inl ⟨by rfl,?_⟩) (by assumption) ?_; (rotate_left 1; (intro w hSw; (try dsimp only at hSw); go_simp); (try with_reducible rfl)); (try simp only [Act.put,Q3,Q4,Q5]))
 (refine wpAnyH_take (i:=2) (v:=?_) (by (simp only [Q0,Q1,Q2]; rfl)) (by kernel_rfl) (by kernel_rfl) (by kernel_rfl) (by exact fun _ _ _ h => h) (Or.inl ⟨by rfl,?_⟩) (by assumption) ?_; (rotate_left 1; (intro w hSw; (try dsimp only at hSw); go_simp); (try with_reducible rfl)); (try simp only [Act.put,Q3,Q4,Q5]))
 (refine wpAnyH_take (i:=3) (v:=?_) (by (simp only [Q0,Q1,Q2]; rfl)) (by kernel_rfl) (by kernel_rfl) (by kernel_rfl) (by exact fun _ _ _ h => h) (Or.inl ⟨by rfl,?_⟩) (by assumption) ?_; (rotate_left 1; (intro w hSw; (try dsimp only at hSw); go_simp); (try with_reducible rfl)); (try simp only [Act.put,Q3,Q4,Q5]))
 (refine wpAnyH_take (i:=4) (v:=?_) (by (simp only [Q0,Q1,Q2]; rfl)) (by kernel_rfl) (by kernel_rfl) (by kernel_rfl) (by exact fun _ _ _ h => h) (Or.inl ⟨by rfl,?_⟩) (by assumption) ?_; (rotate_left 1; (intro w hSw; (try dsimp only at hSw); go_simp); (try with_reducible rfl)); (try simp only [Act.put,Q3,Q4,Q5]))
 (refine wpAnyH_take (i:=5) (v:=?_) (by (simp only [Q0,Q1,Q2]; rfl)) (by kernel_rfl) (by kernel_rfl) (by kernel_rfl) (by exact fun _ _ _ h => h) (Or.inl ⟨by rfl,?_⟩) (by assumption) ?_; (rotate_left 1; (intro w hSw; (try dsimp only at hSw); go_simp); (try with_reducible rfl)); (try simp only [Act.put,Q3,Q4,Q5]))
 (refine wpAnyH_take (i:=6) (v:=?_) (by (simp only [Q0,Q1,Q2]; rfl)) (by kernel_rfl) (by kernel_rfl) (by kernel_rfl) (by exact fun _ _ _ h => h) (Or.inl ⟨by rfl,?_⟩) (by assumption) ?_; (rotate_left 1; (intro w hSw; (try dsimp only at hSw); go_simp); (try with_reducible rfl)); (try simp only [Act.put,Q3,Q4,Q5]))
 refine wpAnyH_ready (rs:=[7]) (by kernel_rfl) (by simp) ?_
 refine AllReadyH.cons rfl (fun K hK => ?_) AllReadyH.nil
 go_simp
 go_at_call 25
 have hra:=rRoomAt_any lo ca cd (some ⟨ab,aoff,none⟩) rs D ds st gl st _ (HK.out _ hbx).1
 unfold mapV at hra
 simp only [encStr] at hra
 rw [show keyI (rs.map RoomE.key) st = (ixR rs st : Int) from HIX.out] at hra
 refine hra.mono ?_
 rintro e wa ⟨rfl,hb⟩
 clear hra
 replace hbx:=hbx.trans (hb.mono hbx.size)
 have hsc:=HS.out _ hbx
 have hga:=(HK.out _ hbx).2
 clear hb
 go_wp2_with fail
 refine hK.out _ _ (hsc) (fun hHeld => ?_)
 clear hK K
 (try simp only [Act.put,Q3,Q4,Q5])
 (refine wpAnyH_take (i:=8) (v:=?_) (by (simp only [Q0,Q1,Q2]; rfl)) (by kernel_rfl) (by kernel_rfl) (by kernel_rfl) (by exact fun _ _ _ h => h) (Or.inl ⟨by rfl,?_⟩) (by assumption) ?_; (rotate_left 1; (intro w hSw; (try dsimp only at hSw); go_simp); (try with_reducible rfl)); (try simp only [Act.put,Q3,Q4,Q5]))
 (refine wpAnyH_take (i:=9) (v:=?_) (by (simp only [Q0,Q1,Q2]; rfl)) (by kernel_rfl) (by kernel_rfl) (by kernel_rfl) (by exact fun _ _ _ h => h) (Or.inl ⟨by rfl,?_⟩) (by assumption) ?_; (rotate_left 1; (intro w hSw; (try dsimp only at hSw); go_simp); (try with_reducible rfl)); (try simp only [Act.put,Q3,Q4,Q5]))
 (refine wpAnyH_take (i:=10) (v:=?_) (by (simp only [Q0,Q1,Q2]; rfl)) (by kernel_rfl) (by kernel_rfl) (by kernel_rfl) (by exact fun _ _ _ h => h) (Or.inl ⟨by rfl,?_⟩) (by assumption) ?_; (rotate_left 1; (intro w hSw; (try dsimp only at hSw); go_simp); (try with_reducible rfl)); (try simp only [Act.put,Q3,Q4,Q5]))
 refine wpAnyH_ready (rs:=[11]) (by kernel_rfl) (by simp) ?_
 refine AllReadyH.cons rfl (fun K hK => ?_) AllReadyH.nil
 go_simp
 go_at_call 34
 have hon:=onceR_any r.B r.c lo r.gives wa hga (by omega)
 rw [HTH.out] at hon
 refine hon.mono ?_
 rintro e w7 ⟨A7,c7,rfl,ho7,hb7⟩
 clear hon hga
 have HO7 : Hid (Row w7 w4.heap.size 1 A7 res.length (strs res)):=Lib.hid (Row.of_own (own_down9 ho7 hbx.size))
 replace hbx:=hbx.trans (hb7.mono hbx.size)
 have hsc:=HS.out _ hbx
 clear ho7 hb7
 go_wp2_with fail
 refine hK.out _ _ (hsc) (fun hHeld => ?_)
 clear hK K
 (try simp only [Act.put,Q3,Q4,Q5])
 (refine wpAnyH_take (i:=12) (v:=?_) (by (simp only [Q0,Q1,Q2]; rfl)) (by kernel_rfl) (by kernel_rfl) (by kernel_rfl) (by exact fun _ _ _ h => h) (Or.inl ⟨by rfl,?_⟩) (by assumption) ?_; (rotate_left 1; (intro w hSw; (try dsimp only at hSw); go_simp); (try with_reducible rfl)); (try simp only [Act.put,Q3,Q4,Q5]))
 refine wpAnyH_ready (rs:=[13]) (by kernel_rfl) (by simp) ?_
 refine AllReadyH.cons rfl (fun K hK => ?_) AllReadyH.nil
 have hr7:=HRS.out w7 hbx
 have z0 : w7.cell? ⟨w.heap.size + 1,0,none⟩ = some (.string ⟨#[]⟩):=hr7.cell 0
 have z1 : w7.cell? ⟨w.heap.size + 1,1,none⟩ = some (.slice none 0 0):=hr7.cell 1
 have f0:=hr7.thaw 0
 have f1:=hr7.thaw 1
 have hz7:=hbx.size
 have hr8:=(hr7.poke 0 (.string ⟨st.toArray⟩)).poke 1 (.slice A7 res.length c7)
 have hb8 : Below w.heap.size w ((w7.setCell ⟨w.heap.size + 1,0,none⟩ (.string ⟨st.toArray⟩)).setCell ⟨w.heap.size + 1,1,none⟩ (.slice A7 res.length c7)):=Below.setCell (Below.setCell (hb4.trans (hbx.mono hb4.size)) (by simp) _) (by simp) _
 have HR8 : Hid (Row ((w7.setCell ⟨w.heap.size + 1,0,none⟩ (.string ⟨st.toArray⟩)).setCell ⟨w.heap.size + 1,1,none⟩ (.slice A7 res.length c7)) w.heap.size 1 A7 res.length (strs res)):=Lib.hid (((HO7.out.set_low _ 0 _ hz4).set_low _ 1 _ hz4).weak hb4.size)
 have hs8 : (fun w' : World => w'.cell? ⟨w.heap.size,0,none⟩ = some (.slice (some ⟨ab,aoff,none⟩) rs.length ca) ∧ w'.cell? ⟨w.heap.size,1,none⟩ = some (.slice D ds.length cd) ∧ w'.cell? ⟨w.heap.size,2,none⟩ = some (.string ⟨st.toArray⟩) ∧ w'.cell? ⟨w.heap.size,3,none⟩ = some (.string ⟨gl.toArray⟩) ∧ w'.cell? ⟨ab,aoff + ixR rs st * 2 + 1,none⟩ = some (.slice r.B r.gives.length r.c)) ((w7.setCell ⟨w.heap.size + 1,0,none⟩ (.string ⟨st.toArray⟩)).setCell ⟨w.heap.size + 1,1,none⟩ (.slice A7 res.length c7)):=by
  obtain ⟨a1,a2,a3,a4,a6⟩:=hsc
  exact ⟨cell_off (cell_off a1 (by simp)) (by simp),cell_off (cell_off a2 (by simp)) (by simp),cell_off (cell_off a3 (by simp)) (by simp),cell_off (cell_off a4 (by simp)) (by simp),cell_off (cell_off a6 (by simp; omega)) (by simp; omega)⟩
 go_simp
 refine hK.out _ _ (hs8) (fun hHeld => ?_)
 clear hK K
 (try simp only [Act.put,Q3,Q4,Q5])
 refine wpAnyH_done (by kernel_rfl) ?_ _
 go_wp2_with fail
 refine bodyPost_ret (res_first _ _ (w.heap.size + 1) _ _ st A7 res.length c7 rfl rfl rfl (hr8.cell 0) (hr8.cell 1)) rfl ?_
 exact ⟨A7,c7,rfl,HR8.out,hb8⟩
end Go.Proofs.YthchgkdhegaehaaGreatDoor
/- The walk of the reference's WalkedOf. -/
namespace Go.Proofs.YthchgkdhegaehaaGreatDoor
set_option linter.unusedVariables false
set_option linter.unusedSimpArgs false
open Go.RowKit

theorem res_walkO (tmps : Array Value) (w : World) (g : Nat) (a b u v : Value) (ka : List UInt8) (B : Option Addr) (n c : Nat) (ha : a = .string ⟨ka.toArray⟩) (hb : b = .slice B n c) (hx : tmps.getD 6 undef = .pointer (some ⟨g,0,none⟩)) (hu : tmps.getD 7 undef = u) (hv : tmps.getD 8 undef = v) (f0 : w.cell? ⟨g,0,none⟩ = some a) (f1 : w.cell? ⟨g,1,none⟩ = some b) :
  (results Tryz.f59 tmps).run Tryz.prog w = .ok (.tuple #[.agg #[a,b],u,v]) w:=by
 have e : Tryz.f59.results = #[.cell 6 52,.tmp 7,.tmp 8]:=by kernel_rfl
 have hx' : tmps[6]?.getD undef = .pointer (some ⟨g,0,none⟩):=by simpa using hx
 have hu' : tmps[7]?.getD undef = u:=by simpa using hu
 have hv' : tmps[8]?.getD undef = v:=by simpa using hv
 subst ha hb
 simp [results,e,hx',hu',hv',go_sem,f0,f1]
theorem ThOk.len {T th : List (List UInt8)} (hT : T.Pairwise (· < ·)) (h : ThOk T th) : th.length ≤ T.length:=by
 rw [← list_bits hT h]; exact List.length_filter_le _ _
set_option maxHeartbeats 8000000 in
set_option maxRecDepth 100000 in
theorem walkedOf_any (lo ca cd lo2 c2 lo3 c3 : Nat) (A : Option Addr) (rs : List RoomE) (D : Option Addr) (ds : List DoorE) (st gl : List UInt8) (TR : Option Addr) (tr : List (List UInt8)) (LA : Option Addr) (l : List (List UInt8)) (w : World) (hA : MapW w lo A rs D ds) (hRI : Right rs ds st gl) (hr : Row w lo2 1 TR tr.length (strs tr)) (hrl : tr.length ≤ 1000000000) (hx : Row w lo3 1 LA l.length (strs l)) (hxl : l.length ≤ 1000000000) :
  Calls Tryz.prog 59 #[mapV A rs ca D ds cd st gl,.slice TR tr.length c2,.slice LA l.length c3] w (WaPost w (walkF rs ds st tr l)):=by
 have hC : McC w (w.alloc (.cells #[.slice A rs.length ca,.slice D ds.length cd,.string ⟨st.toArray⟩,.string ⟨gl.toArray⟩] 29)) w.heap.size lo A rs ca D ds cd st gl:=⟨hA.alloc _,Blk.new _ _ _,(Below.refl _ w).alloc (Nat.le_refl _) _⟩
 replace hC:=hC.below ((Below.refl _ _).alloc (Nat.le_refl _) (.cells #[.string ⟨#[]⟩,.slice none 0 0] 52))
 have hP : Blk ((w.alloc (.cells #[.slice A rs.length ca,.slice D ds.length cd,.string ⟨st.toArray⟩,.string ⟨gl.toArray⟩] 29)).alloc (.cells #[.string ⟨#[]⟩,.slice none 0 0] 52)) (w.heap.size + 1) 52 #[.string ⟨#[]⟩,.slice none 0 0]:=Blk.at_ _ (by simp)
 have HTR:=Lib.hid hr
 have HLX:=Lib.hid hx
 have HRI:=Lib.hid hRI
 have HMA:=Lib.hid hA
 clear hA hr hx hRI
 obtain ⟨R,hR⟩ : ∃ R,R = walkF rs ds st tr l:=⟨_,rfl⟩
 rw [← hR]
 have HF:=Lib.hid hR
 clear hR
 unfold mapV
 simp only [encStr]
 by_cases hbig : 500 < l.length
 ·have HV : Hid (R = wkBad 2):=Lib.hid (by rw [HF.out]; unfold walkF; rw [if_pos hbig])
  go_enter Tryz.func59,Tryz.ntmps59
  go_upto_region 1 with (fail)
  generalize ((w.alloc (.cells #[.slice A rs.length ca,.slice D ds.length cd,.string ⟨st.toArray⟩,.string ⟨gl.toArray⟩] 29)).alloc (.cells #[.string ⟨#[]⟩,.slice none 0 0] 52)) = w1 at *
  obtain ⟨z0,z1⟩:=hP.two_
  have f0:=hP.thaw 0
  have f1:=hP.thaw 1
  have hz6:=(hP.poke 0 (.string ⟨#[]⟩)).poke 1 (.slice none 0 0)
  have hb6 : Below w.heap.size w ((w1.setCell ⟨w.heap.size + 1,0,none⟩ (.string ⟨#[]⟩)).setCell ⟨w.heap.size + 1,1,none⟩ (.slice none 0 0)):=Below.setCell (Below.setCell hC.b (by simp) _) (by simp) _
  go_wp2_with fail
  refine bodyPost_ret (res_walkO _ _ (w.heap.size + 1) _ _ _ _ [] none 0 0 rfl rfl rfl rfl rfl (hz6.cell 0) (hz6.cell 1)) rfl ?_
  exact WaPost.bad HV.out hb6
 have HF2 : Hid (R = walkS rs ds tr l st (onceT (givesOf rs st)) 0):=Lib.hid (by rw [HF.out]; unfold walkF; rw [if_neg hbig])
 clear HF
 obtain ⟨T,hT⟩ : ∃ T,onceT (allT rs ds) = T:=⟨_,rfl⟩
 have hfew : T.length ≤ 10:=by rw [← hT]; exact HRI.out.few
 have HTU : Hid (T.Pairwise (· < ·)):=Lib.hid (by rw [← hT]; exact (onceT_spec _).1)
 have HT:=Lib.hid hT
 clear hT
 go_enter Tryz.func59,Tryz.ntmps59
 go_upto_region 3 with (fail)
 generalize ((w.alloc (.cells #[.slice A rs.length ca,.slice D ds.length cd,.string ⟨st.toArray⟩,.string ⟨gl.toArray⟩] 29)).alloc (.cells #[.string ⟨#[]⟩,.slice none 0 0] 52)) = w1 at *
 have hfp:=firstPoint_any lo ca cd A rs D ds st gl w1 hC.m HRI.out.rup HRI.out.st
 obtain ⟨m0,m1,m2,m3⟩:=hC.cells
 obtain ⟨th0,hth0⟩ : ∃ th0,th0 = onceT (givesOf rs st):=⟨_,rfl⟩
 rw [← hth0] at hfp HF2
 have HOK0 : Hid (ThOk T th0):=Lib.hid (by rw [hth0,← HT.out]; exact begin_ok st)
 clear hth0
 go_wp2_with fail
 refine hfp.mono ?_
 rintro e w3 ⟨PA,pc,rfl,hpr,hb3⟩
 clear hfp m0 m1 m2 m3
 have HC:=Lib.hid (hC.below hb3)
 have HP3:=Lib.hid (hP.below hb3)
 have hwz:=HC.out.b.size
 have hpb : Blk (w3.alloc (.cells #[.string ⟨st.toArray⟩,.slice PA th0.length pc] 52)) w3.heap.size 52 #[.string ⟨st.toArray⟩,.slice PA th0.length pc]:=Blk.new _ _ _
 have hbr : Below w3.heap.size w3 (w3.alloc (.cells #[.string ⟨st.toArray⟩,.slice PA th0.length pc] 52)):=(Below.refl _ _).alloc (Nat.le_refl _) _
 have HPA : Hid (Row (w3.alloc (.cells #[.string ⟨st.toArray⟩,.slice PA th0.length pc] 52)) (w.heap.size + 2) 1 PA th0.length (strs th0)):=Lib.hid ((hpr.weak hP.lt).alloc _)
 have HNE : Hid (0 < th0.length → ∀ a,PA = some a → a.block ≠ w3.heap.size):=Lib.hid (fun h0 a ha => by
  obtain ⟨b,off,e,_,hb,_⟩:=hpr.2 h0
  rw [e] at ha; injection ha with ha; subst ha
  simp; omega)
 clear hC hP hpr hb3
 go_wp2_with fail
 generalize w3.alloc (.cells #[.string ⟨st.toArray⟩,.slice PA th0.length pc] 52) = w4 at *
 go_loopw [10,23] (fun tv i wr => ∃ (k : Nat) (room : List UInt8) (th : List (List UInt8)) (PA : Option Addr) (pc : Nat) (t : Int),k ≤ l.length ∧ i = .int .i64 k ∧ tv = .int .i64 t ∧ Blk wr w3.heap.size 52 #[.string ⟨room.toArray⟩,.slice PA th.length pc] ∧ Hid (Row wr (w.heap.size + 2) 1 PA th.length (strs th)) ∧ Hid (0 < th.length → ∀ a,PA = some a → a.block ≠ w3.heap.size) ∧ Hid (ThOk T th) ∧ Hid (R = walkS rs ds tr (l.drop k) room th t) ∧ 0 ≤ t ∧ t ≤ k * 864000000 ∧ Below w3.heap.size w3 wr) (fun _ i _ => l.length - (intOf i).toNat)
 case atStart => exact ⟨0,st,th0,PA,pc,0,Nat.zero_le _,rfl,rfl,hpb,HPA,HNE,HOK0,Lib.hid HF2.out,Int.le_refl _,by simp,hbr⟩
 case round =>
  clear hpb hbr HPA HNE HOK0
  obtain ⟨k,room,th,PA,pc,t,hk,rfl,rfl,hB,HPA,HNE,HOK,HWS,ht0,ht1,hbr⟩:=hrel
  have hC:=HC.out.below hbr
  have hP:=HP3.out.below hbr
  have zs:=hB.lt
  have zr:=hbr.size
  have hpl:=HP3.out.lt
  have hthl : th.length ≤ 10:=Nat.le_trans (ThOk.len HTU.out HOK.out) hfew
  by_cases hkn : k < l.length
  ·obtain ⟨b,off,rfl,hbs,hcell⟩:=strs_at (HLX.out.below hC.b) hkn
   have y0:=hcell k hkn
   have HDR:=Lib.hid (drop_at l hkn)
   have hk500 : k ≤ 500:=by omega
   clear hcell
   generalize l[k] = key at *
   simp only [encStr] at y0
   obtain ⟨x0,x1,x2,x3⟩:=hC.cells
   go_wp2_with fail
   have hse:=rDoorAt_any lo ca cd A rs D ds st gl key wr hC.m
   unfold mapV at hse
   simp only [encStr] at hse
   refine hse.mono ?_
   rintro e w5 ⟨rfl,hb5⟩
   clear hse x0 x1 x2 x3 y0
   replace hbr:=hbr.trans (hb5.mono zr)
   replace hB:=hB.below hb5
   replace hP:=hP.below hb5
   replace hC:=hC.below hb5
   replace HPA:=Lib.hid (HPA.out.below hb5)
   clear hb5
   obtain ⟨z0,z1⟩:=hP.two_
   have f0:=hP.thaw 0
   have f1:=hP.thaw 1
   have hz6:=(hP.poke 0 (.string ⟨#[]⟩)).poke 1 (.slice none 0 0)
   have hb6 : Below w.heap.size w ((w5.setCell ⟨w.heap.size + 1,0,none⟩ (.string ⟨#[]⟩)).setCell ⟨w.heap.size + 1,1,none⟩ (.slice none 0 0)):=Below.setCell (Below.setCell hC.b (by simp) _) (by simp) _
   by_cases hin : key ∈ ds.map DoorE.key
   ·have hidx:=List.idxOf_lt_length_of_mem hin
    obtain ⟨r,hrr⟩ : ∃ r,(ds.map DoorE.key).idxOf key = r:=⟨_,rfl⟩
    have HKI : Hid (keyI (ds.map DoorE.key) key = (r : Int)):=Lib.hid (by rw [← hrr]; exact if_pos hin)
    have hrd : r < ds.length:=by rw [hrr] at hidx; simpa using hidx
    have hke2 : ds[r].key = key:=by
     have:=List.getElem_idxOf hidx
     rw [List.getElem_map] at this
     simp only [hrr] at this
     exact this
    rw [HKI.out]
    have HWK:=Lib.hid (walk_some (rs:=rs) (tr:=tr) (ks:=l.drop (k + 1)) (room:=room) (th:=th) (t:=t) HRI.out.dup hrd)
    rw [hke2] at HWK
    have HMEM:=Lib.hid (List.getElem_mem hrd)
    obtain ⟨bd,doff,rfl,hbd,hdc⟩:=(HC.out.m).door (by omega)
    have hdcell:=hdc r hrd
    clear hin hidx hrr hke2 hdc HKI
    have hrd500 : ds.length ≤ 500:=HRI.out.dl
    have hr0 : (0 : Int) ≤ (r : Int):=by omega
    have hr1 : (r : Int) < (ds.length : Int):=by omega
    have hnr : ¬ (r : Int) < 0:=by omega
    generalize ds[r] = d at *
    simp only [encStr] at hdcell
    have HNR : Hid (∀ W,Below w.heap.size w W → Row W lo 1 d.N d.needs.length (strs d.needs) ∧ Row W lo 1 d.T d.takes.length (strs d.takes) ∧ MapW W lo A rs (some ⟨bd,doff,none⟩) ds):=Lib.hid (fun W hW => ⟨((HMA.out.below hW).needs _ HMEM.out).1,((HMA.out.below hW).takes _ HMEM.out).1,HMA.out.below hW⟩)
    have HNL:=Lib.hid (⟨(hC.m.s.dn _ HMEM.out).1,(hC.m.s.dx _ HMEM.out).1⟩ : _ ∧ _)
    have HSC : Hid (∀ W,Below w5.heap.size w5 W → (fun w' : World => w'.cell? ⟨w3.heap.size,0,none⟩ = some (.string ⟨room.toArray⟩) ∧ w'.cell? ⟨w3.heap.size,1,none⟩ = some (.slice PA th.length pc) ∧ w'.cell? ⟨w.heap.size,0,none⟩ = some (.slice A rs.length ca) ∧ w'.cell? ⟨w.heap.size,1,none⟩ = some (.slice (some ⟨bd,doff,none⟩) ds.length cd) ∧ w'.cell? ⟨w.heap.size,2,none⟩ = some (.string ⟨st.toArray⟩) ∧ w'.cell? ⟨w.heap.size,3,none⟩ = some (.string ⟨gl.toArray⟩) ∧ w'.cell? ⟨bd,doff + r * 7,none⟩ = some (.string ⟨d.key.toArray⟩) ∧ w'.cell? ⟨bd,doff + r * 7 + 1,none⟩ = some (.string ⟨d.src.toArray⟩) ∧ w'.cell? ⟨bd,doff + r * 7 + 2,none⟩ = some (.string ⟨d.dst.toArray⟩) ∧ w'.cell? ⟨bd,doff + r * 7 + 3,none⟩ = some (.int .i64 d.time) ∧ w'.cell? ⟨bd,doff + r * 7 + 4,none⟩ = some (.slice d.N d.needs.length d.nc) ∧ w'.cell? ⟨bd,doff + r * 7 + 5,none⟩ = some (.slice d.T d.takes.length d.tc) ∧ w'.cell? ⟨bd,doff + r * 7 + 6,none⟩ = some (.string ⟨d.trick.toArray⟩)) W):=Lib.hid (fun W hW => by
     have hw3 : Below w3.heap.size w3 W:=hbr.trans (hW.mono hbr.size)
     obtain ⟨m0,m1,m2,m3⟩:=(HC.out.below hw3).cells
     obtain ⟨b0,b1⟩:=(hB.below hW).two_
     obtain ⟨q0,q1,q2,q3,q4,q5,q6⟩:=hdcell
     exact ⟨b0,b1,m0,m1,m2,m3,(hw3.cell (p:=⟨bd,doff + r * 7,none⟩) hbd).trans q0,(hw3.cell (p:=⟨bd,doff + r * 7 + 1,none⟩) hbd).trans q1,(hw3.cell (p:=⟨bd,doff + r * 7 + 2,none⟩) hbd).trans q2,(hw3.cell (p:=⟨bd,doff + r * 7 + 3,none⟩) hbd).trans q3,(hw3.cell (p:=⟨bd,doff + r * 7 + 4,none⟩) hbd).trans q4,(hw3.cell (p:=⟨bd,doff + r * 7 + 5,none⟩) hbd).trans q5,(hw3.cell (p:=⟨bd,doff + r * 7 + 6,none⟩) hbd).trans q6⟩)
    have HPW : Hid (∀ W,Below w5.heap.size w5 W → Row W (w.heap.size + 2) 1 PA th.length (strs th)):=Lib.hid (fun W hW => HPA.out.below hW)
    have HB5 : Hid (∀ W,Below w5.heap.size w5 W → Blk W w3.heap.size 52 #[.string ⟨room.toArray⟩,.slice PA th.length pc]):=Lib.hid (fun W hW => hB.below hW)
    have hbw5:=hC.b
    clear hdcell z0 z1 f0 f1 hz6 hb6 hB hP hC
    go_upto_region 10 with (fail)
    go_cut [14] from 33 to 41 (fun v wx => v = .int .i64 (goE tr room th d) ∧ Below w5.heap.size w5 wx)
    case first =>
     have hbx : Below w5.heap.size w5 w5.drew:=below_drewN' (Below.refl _ _) 1
     have hsc:=HSC.out _ hbx
     refine wp_region_held_drew (S:=(fun w' => w'.cell? ⟨w3.heap.size,0,none⟩ = some (.string ⟨room.toArray⟩) ∧ w'.cell? ⟨w3.heap.size,1,none⟩ = some (.slice PA th.length pc) ∧ w'.cell? ⟨w.heap.size,0,none⟩ = some (.slice A rs.length ca) ∧ w'.cell? ⟨w.heap.size,1,none⟩ = some (.slice (some ⟨bd,doff,none⟩) ds.length cd) ∧ w'.cell? ⟨w.heap.size,2,none⟩ = some (.string ⟨st.toArray⟩) ∧ w'.cell? ⟨w.heap.size,3,none⟩ = some (.string ⟨gl.toArray⟩) ∧ w'.cell? ⟨bd,doff + r * 7,none⟩ = some (.string ⟨d.key.toArray⟩) ∧ w'.cell? ⟨bd,doff + r * 7 + 1,none⟩ = some (.string ⟨d.src.toArray⟩) ∧ w'.cell? ⟨bd,doff + r * 7 + 2,none⟩ = some (.string ⟨d.dst.toArray⟩) ∧ w'.cell? ⟨bd,doff + r * 7 + 3,none⟩ = some (.int .i64 d.time) ∧ w'.cell? ⟨bd,doff + r * 7 + 4,none⟩ = some (.slice d.N d.needs.length d.nc) ∧ w'.cell? ⟨bd,doff + r * 7 + 5,none⟩ = some (.slice d.T d.takes.length d.tc) ∧ w'.cell? ⟨bd,doff + r * 7 + 6,none⟩ = some (.string ⟨d.trick.toArray⟩))) (by kernel_rfl) (hsc) (fun hHeld => ?_)
     (refine wpAnyH_take (i:=0) (v:=?_) (by (simp only [Q0,Q2]; rfl)) (by kernel_rfl) (by kernel_rfl) (by kernel_rfl) (by exact fun _ _ _ h => h) (Or.inl ⟨by rfl,?_⟩) (by assumption) ?_; (rotate_left 1; (intro w hSw; (try dsimp only at hSw); go_simp); (try with_reducible rfl)); (try simp only [Act.put,Q3,Q4,Q5]))
     (refine wpAnyH_take (i:=1) (v:=?_) (by (simp only [Q0,Q1,Q2]; rfl)) (by kernel_rfl) (by kernel_rfl) (by kernel_rfl) (by exact fun _ _ _ h => h) (Or.inl ⟨by rfl,?_⟩) (by assumption) ?_; (rotate_left 1; (intro w hSw; (try dsimp only at hSw); go_simp); (try with_reducible rfl)); (try simp only [Act.put,Q3,Q4,Q5]))
     (refine wpAnyH_take (i:=2) (v:=?_) (by (simp only [Q0,Q1,Q2]; rfl)) (by kernel_rfl) (by kernel_rfl) (by kernel_rfl) (by exact fun _ _ _ h => h) (Or.inl ⟨by rfl,?_⟩) (by assumption) ?_; (rotate_left 1; (intro w hSw; (try dsimp only at hSw); go_simp); (try with_reducible rfl)); (try simp only [Act.put,Q3,Q4,Q5]))
     (refine wpAnyH_take (i:=3) (v:=?_) (by (simp only [Q0,Q1,Q2]; rfl)) (by kernel_rfl) (by kernel_rfl) (by kernel_rfl) (by exact fun _ _ _ h => h) (Or.inl ⟨by rfl,?_⟩) (by assumption) ?_; (rotate_left 1; (intro w hSw; (try dsimp only at hSw); go_simp); (try with_reducible rfl)); (try simp only [Act.put,Q3,Q4,Q5]))
     (refine wpAnyH_take (i:=4) (v:=?_) (by (simp only [Q0,Q1,Q2]; rfl)) (by kernel_rfl) (by kernel_rfl) (by kernel_rfl) (by exact fun _ _ _ h => h) (Or.inl ⟨by rfl,?_⟩) (by assumption) ?_; (rotate_left 1; (intro w hSw; (try dsimp only at hSw); go_simp); (try with_reducible rfl)); (try simp only [Act.put,Q3,Q4,Q5]))
     (refine wpAnyH_take (i:=5) (v:=?_) (by (simp only [Q0,Q1,Q2]; rfl)) (by kernel_rfl) (by kernel_rfl) (by kernel_rfl) (by exact fun _ _ _ h => h) (Or.inl ⟨by rfl,?_⟩) (by assumption) ?_; (rotate_left 1; (intro w hSw; (try dsimp only at hSw); go_simp); (try with_reducible rfl)); (try simp only [Act.put,Q3,Q4,Q5]))
     (refine wpAnyH_take (i:=6) (v:=?_) (by (simp only [Q0,Q1,Q2]; rfl)) (by kernel_rfl) (by kernel_rfl) (by kernel_rfl) (by exact fun _ _ _ h => h) (Or.inl ⟨by rfl,?_⟩) (by assumption) ?_; (rotate_left 1; (intro w hSw; (try dsimp only at hSw); go_simp); (try with_reducible rfl)); (try simp only [Act.put,Q3,Q4,Q5]))
     refine wpAnyH_ready (rs:=[7]) (by kernel_rfl) (by simp) ?_
     refine AllReadyH.cons rfl (fun K hK => ?_) AllReadyH.nil
     go_simp
     go_at_call 107
     refine (rdoorFault_any lo2 (w.heap.size + 2) lo c2 pc TR PA tr th room d _ (HTR.out.below (hbw5.trans (hbx.mono hbw5.size))) hrl (HPW.out _ hbx) (by omega) (HNR.out _ (hbw5.trans (hbx.mono hbw5.size))).1 (by have:=HNL.out.1; omega)).mono ?_
     rintro e wa ⟨rfl,hb⟩
     replace hbx:=hbx.trans (hb.mono hbx.size)
     have hsc:=HSC.out _ hbx
     clear hb
     go_wp2_with fail
     refine hK.out _ _ (hsc) (fun hHeld => ?_)
     clear hK K
     (try simp only [Act.put,Q3,Q4,Q5])
     (refine wpAnyH_take (i:=8) (v:=?_) (by (simp only [Q0,Q1,Q2]; rfl)) (by kernel_rfl) (by kernel_rfl) (by kernel_rfl) (by exact fun _ _ _ h => h) (Or.inl ⟨by rfl,?_⟩) (by assumption) ?_; (rotate_left 1; (intro w hSw; (try dsimp only at hSw); go_simp); (try with_reducible rfl)); (try simp only [Act.put,Q3,Q4,Q5]))
     refine wpAnyH_done (by kernel_rfl) ?_ _
     go_wp2_with fail
     go_meet
     exact ⟨rfl,hbx⟩
    case rest =>
    obtain ⟨rfl,hbx⟩:=hcut
    obtain ⟨ge,hge⟩ : ∃ ge,ge = goE tr room th d:=⟨_,rfl⟩
    rw [← hge] at HWK ⊢
    have HGE:=Lib.hid hge
    clear hge
    have hbr8 : Below w3.heap.size w3 wc:=hbr.trans (hbx.mono hbr.size)
    have hC:=HC.out.below hbr8
    have hP:=HP3.out.below hbr8
    by_cases h0 : ge = 0
    ·have d0 : (ge != 0) = false:=by rw [h0]; rfl
     have HW8 : Hid (R = walkS rs ds tr (l.drop (k + 1)) d.dst (thru rs th d) (t + d.time)):=Lib.hid (by rw [HWS.out,HDR.out,HWK.out,if_neg (fun h => h h0)])
     have HOK8 : Hid (ThOk T (thru rs th d)):=Lib.hid (by have:=HOK.out; rw [← HT.out] at this ⊢; exact thru_ok d this)
     have hdt:=HRI.out.time _ HMEM.out
     have HDST:=Lib.hid (HRI.out.dst _ HMEM.out)
     clear h0
     go_upto_region 13 with (fail)
     have hbz : Below w5.heap.size w5 wc.drew:=hbx.drew
     have hsc:=HSC.out _ hbz
     refine wp_region_heldK 8 (fun w' => w'.cell? ⟨w3.heap.size,0,none⟩ = some (.string ⟨room.toArray⟩) ∧ w'.cell? ⟨w3.heap.size,1,none⟩ = some (.slice PA th.length pc) ∧ w'.cell? ⟨w.heap.size,0,none⟩ = some (.slice A rs.length ca) ∧ w'.cell? ⟨w.heap.size,1,none⟩ = some (.slice (some ⟨bd,doff,none⟩) ds.length cd) ∧ w'.cell? ⟨w.heap.size,2,none⟩ = some (.string ⟨st.toArray⟩) ∧ w'.cell? ⟨w.heap.size,3,none⟩ = some (.string ⟨gl.toArray⟩) ∧ w'.cell? ⟨bd,doff + r * 7,none⟩ = some (.string ⟨d.key.toArray⟩) ∧ w'.cell? ⟨bd,doff + r * 7 + 1,none⟩ = some (.string ⟨d.src.toArray⟩) ∧ w'.cell? ⟨bd,doff + r * 7 + 2,none⟩ = some (.string ⟨d.dst.toArray⟩) ∧ w'.cell? ⟨bd,doff + r * 7 + 3,none⟩ = some (.int .i64 d.time) ∧ w'.cell? ⟨bd,doff + r * 7 + 4,none⟩ = some (.slice d.N d.needs.length d.nc) ∧ w'.cell? ⟨bd,doff + r * 7 + 5,none⟩ = some (.slice d.T d.takes.length d.tc) ∧ w'.cell? ⟨bd,doff + r * 7 + 6,none⟩ = some (.string ⟨d.trick.toArray⟩)) (fun _ => True) (by kernel_rfl) (trivial) (hsc) (fun hT hS => ?_)
     (refine wpAnyK_take1 (i:=0) (v:=?_) (by (simp only [Q0,Q2]; rfl)) (by kernel_rfl) (by kernel_rfl) (by kernel_rfl) (by decide) (by kernel_rfl) (by kernel_rfl) (by exact fun _ _ _ h => h) (Or.inl ⟨by rfl,?_⟩) (by assumption) (by assumption) ?_; (rotate_left 1; (intro w hSw; (try dsimp only at hSw); go_simp); (try with_reducible rfl)); (try simp only [Act.put,Q3,Q4,Q5]))
     (refine wpAnyK_take1 (i:=1) (v:=?_) (by (simp only [Q0,Q1,Q2]; rfl)) (by kernel_rfl) (by kernel_rfl) (by kernel_rfl) (by decide) (by kernel_rfl) (by kernel_rfl) (by exact fun _ _ _ h => h) (Or.inl ⟨by rfl,?_⟩) (by assumption) (by assumption) ?_; (rotate_left 1; (intro w hSw; (try dsimp only at hSw); go_simp); (try with_reducible rfl)); (try simp only [Act.put,Q3,Q4,Q5]))
     (refine wpAnyK_take2 (i:=2) (v:=?_) (by (simp only [Q0,Q1,Q2]; rfl)) (by kernel_rfl) (by kernel_rfl) (by kernel_rfl) (by decide) (by exact fun _ _ _ h => h) (Or.inl ⟨by rfl,?_⟩) (by assumption) (by assumption) ?_; (rotate_left 1; (intro w hSw; (try dsimp only at hSw); go_simp); (try with_reducible rfl)); (try simp only [Act.put,Q3,Q4,Q5]))
     (refine wpAnyK_take1 (i:=3) (v:=?_) (by (simp only [Q0,Q1,Q2]; rfl)) (by kernel_rfl) (by kernel_rfl) (by kernel_rfl) (by decide) (by kernel_rfl) (by kernel_rfl) (by exact fun _ _ _ h => h) (Or.inl ⟨by rfl,?_⟩) (by assumption) (by assumption) ?_; (rotate_left 1; (intro w hSw; (try dsimp only at hSw); go_simp); (try with_reducible rfl)); (try simp only [Act.put,Q3,Q4,Q5]))
     (refine wpAnyK_take2 (i:=4) (v:=?_) (by (simp only [Q0,Q1,Q2]; rfl)) (by kernel_rfl) (by kernel_rfl) (by kernel_rfl) (by decide) (by exact fun _ _ _ h => h) (Or.inl ⟨by rfl,?_⟩) (by assumption) (by assumption) ?_; (rotate_left 1; (intro w hSw; (try dsimp only at hSw); go_simp); (try with_reducible rfl)); (try simp only [Act.put,Q3,Q4,Q5]))
     (refine wpAnyK_take2 (i:=5) (v:=?_) (by (simp only [Q0,Q1,Q2]; rfl)) (by kernel_rfl) (by kernel_rfl) (by kernel_rfl) (by decide) (by exact fun _ _ _ h => h) (Or.inl ⟨by rfl,?_⟩) (by assumption) (by assumption) ?_; (rotate_left 1; (intro w hSw; (try dsimp only at hSw); go_simp); (try with_reducible rfl)); (try simp only [Act.put,Q3,Q4,Q5]))
     (refine wpAnyK_take1 (i:=6) (v:=?_) (by (simp only [Q0,Q1,Q2]; rfl)) (by kernel_rfl) (by kernel_rfl) (by kernel_rfl) (by decide) (by kernel_rfl) (by kernel_rfl) (by exact fun _ _ _ h => h) (Or.inl ⟨by rfl,?_⟩) (by assumption) (by assumption) ?_; (rotate_left 1; (intro w hSw; (try dsimp only at hSw); go_simp); (try with_reducible rfl)); (try simp only [Act.put,Q3,Q4,Q5]))
     refine wpAnyK_ready (rs:=[7]) (by kernel_rfl) (by simp) ?_
     refine AllReadyK.cons rfl (fun K hK => ?_) AllReadyK.nil
     go_simp
     go_at_call 108
     have hnr:=HNR.out _ (hbw5.trans (hbz.mono hbw5.size))
     refine (through_any lo ca cd (w.heap.size + 2) pc A rs (some ⟨bd,doff,none⟩) ds st gl PA th room d _ hnr.2.2 HRI.out.rup HDST.out (HPW.out _ hbz) (by omega) hnr.2.1 (by have:=HNL.out.2; omega)).mono ?_
     clear hnr
     rintro e wa ⟨A7,c7,rfl,hr7,hb⟩
     have hlo:=(HB5.out _ hbz).lt
     replace hbz:=hbz.trans (hb.mono hbz.size)
     have hsc:=HSC.out _ hbz
     have hbA:=HB5.out _ hbz
     have HR7:=Lib.hid hr7
     clear hb hr7
     obtain ⟨res,hres⟩ : ∃ res,res = thru rs th d:=⟨_,rfl⟩
     rw [← hres] at HW8 HOK8 HR7 ⊢
     clear hres
     go_wp2_with fail
     refine hK.out _ _ (trivial) (hsc) (fun hT hS => ?_)
     clear hK K
     (try simp only [Act.put,Q3,Q4,Q5])
     refine wpAnyK_ready (rs:=[8]) (by kernel_rfl) (by simp) ?_
     refine AllReadyK.consT (by kernel_rfl) rfl (fun K hK => ?_) AllReadyK.nil
     obtain ⟨z0,z1⟩:=hbA.two_
     have f0:=hbA.thaw 0
     have f1:=hbA.thaw 1
     have zA:=hbA.lt
     go_simp
     refine hK.out _ _ (trivial) (fun hT => ?_)
     clear hK K
     (try simp only [Act.put,Q3,Q4,Q5])
     refine wpAnyK_done (by kernel_rfl) ?_ _
     obtain ⟨k0,k1,k2,k3,k4,k5,k6,k7,k8,k9,-⟩:=hsc
     have zm : w.heap.size < w3.heap.size:=by omega
     have hbrA : Below w3.heap.size w3 wa:=hbr.trans (hbz.mono hbr.size)
     have HPA2 : Hid (Row ((wa.setCell ⟨w3.heap.size,0,none⟩ (.string ⟨d.dst.toArray⟩)).setCell ⟨w3.heap.size,1,none⟩ (.slice A7 res.length c7)) (w.heap.size + 2) 1 A7 res.length (strs res)):=Lib.hid (((HR7.out.set_low _ 0 _ hlo).set_low _ 1 _ hlo).weak (by simp at hlo ⊢; omega))
     have HNE2 : Hid (0 < res.length → ∀ a,A7 = some a → a.block ≠ w3.heap.size):=Lib.hid (fun h0 a ha => by
      obtain ⟨b,off,e,hl,_,_⟩:=HR7.out.2 h0
      rw [e] at ha; injection ha with ha; subst ha
      simp at hl hlo ⊢; omega)
     have hbP:=(hbA.poke 0 (.string ⟨d.dst.toArray⟩)).poke 1 (.slice A7 res.length c7)
     clear z0 z1 f0 f1 hbA HR7 k0 k1 k2 k4 k5 k6 k7 k8 hT
     go_wp2_with fail
     go_roundw
     case rel => exact ⟨k + 1,d.dst,res,A7,c7,t + d.time,by omega,by go_num,rfl,by simpa using hbP,HPA2,HNE2,HOK8,HW8,by omega,by omega,Below.setCell (Below.setCell hbrA (by simp) _) (by simp) _⟩
     case measure => simp [intOf]; omega
    ·have HV : Hid (R = wkBad ge):=Lib.hid (by rw [HWS.out,HDR.out,HWK.out,if_pos h0])
     have d0 : (ge != 0) = true:=bne_iff_ne.2 h0
     clear h0
     obtain ⟨z0,z1⟩:=hP.two_
     have f0:=hP.thaw 0
     have f1:=hP.thaw 1
     have hz6:=(hP.poke 0 (.string ⟨#[]⟩)).poke 1 (.slice none 0 0)
     have hb6 : Below w.heap.size w ((wc.setCell ⟨w.heap.size + 1,0,none⟩ (.string ⟨#[]⟩)).setCell ⟨w.heap.size + 1,1,none⟩ (.slice none 0 0)):=Below.setCell (Below.setCell hC.b (by simp) _) (by simp) _
     go_wp2_with fail
     refine bodyPost_ret (res_walkO _ _ (w.heap.size + 1) _ _ _ _ [] none 0 0 rfl rfl rfl rfl rfl (hz6.cell 0) (hz6.cell 1)) rfl ?_
     exact WaPost.bad HV.out hb6
   ·have HV : Hid (R = wkBad 8):=Lib.hid (by rw [HWS.out,HDR.out]; exact walk_none hin)
    rw [keyI_none hin]
    clear hin
    go_wp2_with fail
    refine bodyPost_ret (res_walkO _ _ (w.heap.size + 1) _ _ _ _ [] none 0 0 rfl rfl rfl rfl rfl (hz6.cell 0) (hz6.cell 1)) rfl ?_
    exact WaPost.bad HV.out hb6
  ·have hke : k = l.length:=by omega
   subst hke
   have HV : Hid (R = ⟨0,room,th,t⟩):=Lib.hid (by rw [HWS.out,List.drop_length]; rfl)
   obtain ⟨b0,b1⟩:=hB.two_
   obtain ⟨z0,z1⟩:=hP.two_
   have f0:=hP.thaw 0
   have f1:=hP.thaw 1
   have hz6:=(hP.poke 0 (.string ⟨room.toArray⟩)).poke 1 (.slice PA th.length pc)
   have hb6 : Below w.heap.size w ((wr.setCell ⟨w.heap.size + 1,0,none⟩ (.string ⟨room.toArray⟩)).setCell ⟨w.heap.size + 1,1,none⟩ (.slice PA th.length pc)):=Below.setCell (Below.setCell hC.b (by simp) _) (by simp) _
   have HR8 : Hid (Row ((wr.setCell ⟨w.heap.size + 1,0,none⟩ (.string ⟨room.toArray⟩)).setCell ⟨w.heap.size + 1,1,none⟩ (.slice PA th.length pc)) w.heap.size 1 PA th.length (strs th)):=Lib.hid (((HPA.out.set_low _ 0 _ (by omega)).set_low _ 1 _ (by omega)).weak (by omega))
   go_wp2_with fail
   refine bodyPost_ret (res_walkO _ _ (w.heap.size + 1) _ _ _ _ room PA th.length pc rfl rfl rfl rfl rfl (hz6.cell 0) (hz6.cell 1)) rfl ?_
   rw [HV.out]
   exact ⟨PA,pc,rfl,HR8.out,hb6⟩
end Go.Proofs.YthchgkdhegaehaaGreatDoor
