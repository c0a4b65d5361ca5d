/- Texts of this seat, laid together: NpA WkR WkO MpD. -/
import Derived.Deep.CutBlock
import Derived.Test.YtjggbpchmbdocaaGreatDoorBt37
import Derived.Test.YtjggbpchmbdocaaGreatDoorBt25
import Derived.Test.YtjggbpchmbdocaaGreatDoorBt29
import Derived.Test.YtjggbpchmbdocaaGreatDoorBt28
import Derived.Test.YtjggbpchmbdocaaGreatDoorBt36
import Derived.Test.YtjggbpchmbdocaaGreatDoorBt07
/- Drawn maps are right, plain. -/
set_option linter.unusedVariables false
set_option linter.unusedSimpArgs false
namespace Go.Proofs.YtjggbpchmbdocaaGreatDoor
open Go.RowKit Go.Sort

theorem once_short {l T : List (List UInt8)} (hT : T.Pairwise (· < ·)) (h : ∀ x ∈ l,x ∈ T) : (onceT l).length ≤ T.length:=by
 rw [once_filter hT h]; exact List.length_filter_le _ _
end Go.Proofs.YtjggbpchmbdocaaGreatDoor
/- The walks of the reference's doorFault, through, firstPoint and SamePoint. -/
namespace Go.Proofs.YtjggbpchmbdocaaGreatDoor
open Go.RowKit Go.Sort Go.Shelf

theorem oneS : OneCell encStr:=fun _ => rfl
theorem getB {l : List (List UInt8)} {j : Nat} (hj : j < l.length) : l[j]! = l[j]:=getElem!_pos l j hj
theorem dfC_any (x : List UInt8) (pb c lo : Nat) (A : Option Addr) (th : List (List UInt8)) (w : World) (h1 : w.cell? ⟨pb,1,none⟩ = some (.slice A th.length c)) (hr : Row w lo 1 A th.length (strs th)) (hl : th.length ≤ 1000000000) :
  Calls Tryz.prog 133 #[encStr x,.pointer (some ⟨pb,0,none⟩)] w fun e w' => e = .returned (.bool (!decide (x ∈ th))) ∧ ∃ q,w' = w.drewN q:=by
 have hcon:=containsS_any A c lo th x w hr hl;unfold encStr at hcon ⊢
 go_enter Tryz.func133,Tryz.ntmps133
 go_wp2_with fail;refine hcon.mono ?_;rintro e w1 ⟨rfl,rfl⟩;go_wp2_with fail;go_ret;exact ⟨rfl,0,rfl⟩
theorem dfX_any (pb c lo lo2 nc : Nat) (A N : Option Addr) (th l : List (List UInt8)) (w : World) (h1 : w.cell? ⟨pb,1,none⟩ = some (.slice A th.length c)) (hr : Row w lo 1 A th.length (strs th)) (hl : th.length ≤ 1000000000) (hn : Row w lo2 1 N l.length (strs l)) (hnl : l.length ≤ 1000000000) :
  Calls Tryz.prog 70 #[.slice N l.length nc,.func (.func 133) #[] #[.pointer (some ⟨pb,0,none⟩)]] w fun e w' => e = .returned (.bool (l.any fun x => !decide (x ∈ th))) ∧ Below w.heap.size w w':=by
 have eg : ∀ args w,(callFunc 133 args).run Tryz.prog w = .ok (.enter 133 args) w:=enters_of Tryz.func133 (by kernel_rfl) rfl;have hz:=World.block_lt_of_cell? w _ h1;rcases Nat.eq_zero_or_pos l.length with h0 | h0
 ·obtain rfl : l = []:=List.eq_nil_of_length_eq_zero h0
  refine (AnyE.slices_ContainsFunc_empty Tryz.layCon N nc _ w).mono ?_;rintro e w' ⟨rfl,rfl⟩;exact ⟨rfl,Below.refl _ _⟩
 ·obtain ⟨b,off,rfl,hb,hc⟩:=strs_at hn h0
  have hp : PredAt Tryz.prog 133 #[.pointer (some ⟨pb,0,none⟩)] encStr (fun x => !decide (x ∈ th)) w:=fun W x hW =>
   dfC_any x pb c lo A th W ((hW.cell (p:=⟨pb,1,none⟩) hz).trans h1) (hr.below hW) hl
  have:=AnyE.slices_ContainsFunc Tryz.layCon encStr (fun x => !decide (x ∈ th)) 133 #[.pointer (some ⟨pb,0,none⟩)] eg b off l.length nc l w hp (Nat.le_refl _) (by omega) (fun j hj => by rw [getB hj]; exact hc j hj);rw [List.take_length] at this;refine this.mono ?_;rintro e w' ⟨rfl,q,rfl⟩;exact ⟨rfl,below_drewN' (Below.refl _ _) q⟩
theorem any_needs (needs th : List (List UInt8)) : (needs.any fun x => !decide (x ∈ th)) = !decide (∀ s ∈ needs,s ∈ th):=by
 rw [Bool.eq_iff_iff]
 simp
set_option maxHeartbeats 4000000 in
theorem rdoorFault_any (lo1 lo2 lo3 c2 pc : Nat) (TR P : Option Addr) (tr th : List (List UInt8)) (room : List UInt8) (d : DoorE) (w : World) (hr : Row w lo1 1 TR tr.length (strs tr)) (hrl : tr.length ≤ 1000000000) (hth : Row w lo2 1 P th.length (strs th)) (hthl : th.length ≤ 1000000000) (hn : Row w lo3 1 d.N d.needs.length (strs d.needs)) (hnl : d.needs.length ≤ 1000000000) :
  Calls Tryz.prog 67 #[.slice TR tr.length c2,.agg #[.string ⟨room.toArray⟩,.slice P th.length pc],.agg #[.string ⟨d.key.toArray⟩,.string ⟨d.src.toArray⟩,.string ⟨d.dst.toArray⟩,.int .i64 d.time,.slice d.N d.needs.length d.nc,.slice d.T d.takes.length d.tc,.string ⟨d.trick.toArray⟩]] w fun e w' => e = .returned (.int .i64 (goE tr room th d)) ∧ Below w.heap.size w w':=by
 have hb : Below w.heap.size w ((w.alloc (.cells #[.string ⟨room.toArray⟩,.slice P th.length pc] 35)).alloc (.cells #[.string ⟨d.key.toArray⟩,.string ⟨d.src.toArray⟩,.string ⟨d.dst.toArray⟩,.int .i64 d.time,.slice d.N d.needs.length d.nc,.slice d.T d.takes.length d.tc,.string ⟨d.trick.toArray⟩] 120)):=((Below.refl _ w).alloc (Nat.le_refl _) _).alloc (by simp) _;have hp : Blk ((w.alloc (.cells #[.string ⟨room.toArray⟩,.slice P th.length pc] 35)).alloc (.cells #[.string ⟨d.key.toArray⟩,.string ⟨d.src.toArray⟩,.string ⟨d.dst.toArray⟩,.int .i64 d.time,.slice d.N d.needs.length d.nc,.slice d.T d.takes.length d.tc,.string ⟨d.trick.toArray⟩] 120)) w.heap.size 35 #[.string ⟨room.toArray⟩,.slice P th.length pc]:=(Blk.new _ _ _).alloc _;have hd : Blk ((w.alloc (.cells #[.string ⟨room.toArray⟩,.slice P th.length pc] 35)).alloc (.cells #[.string ⟨d.key.toArray⟩,.string ⟨d.src.toArray⟩,.string ⟨d.dst.toArray⟩,.int .i64 d.time,.slice d.N d.needs.length d.nc,.slice d.T d.takes.length d.tc,.string ⟨d.trick.toArray⟩] 120)) (w.heap.size + 1) 120 #[.string ⟨d.key.toArray⟩,.string ⟨d.src.toArray⟩,.string ⟨d.dst.toArray⟩,.int .i64 d.time,.slice d.N d.needs.length d.nc,.slice d.T d.takes.length d.tc,.string ⟨d.trick.toArray⟩]:=Blk.at_ _ (by simp);have HR:=Lib.hid hr;have HT:=Lib.hid hth;have HN:=Lib.hid hn;have HG : Hid (goE tr room th d = if room ≠ d.src then 3 else if d.trick ≠ [] ∧ d.trick ∉ tr then 16 else if ¬ (∀ s ∈ d.needs,s ∈ th) then 11 else 0):=Lib.hid rfl;clear hr hth hn
 go_enter Tryz.func67,Tryz.ntmps67
 go_upto_region 1 with (fail);generalize ((w.alloc (.cells #[.string ⟨room.toArray⟩,.slice P th.length pc] 35)).alloc (.cells #[.string ⟨d.key.toArray⟩,.string ⟨d.src.toArray⟩,.string ⟨d.dst.toArray⟩,.int .i64 d.time,.slice d.N d.needs.length d.nc,.slice d.T d.takes.length d.tc,.string ⟨d.trick.toArray⟩] 120)) = w0 at *;obtain ⟨p0,p1⟩:=hp.two_;obtain ⟨y0,y1,y2,y3,y4,y5,y6⟩:=hd.w7;clear y0 y2 y3 y5
 by_cases c1 : room = d.src
 ·have e1 : (room == d.src) = true:=beq_iff_eq.2 c1
  have HG2 : Hid (goE tr room th d = if d.trick ≠ [] ∧ d.trick ∉ tr then 16 else if ¬ (∀ s ∈ d.needs,s ∈ th) then 11 else 0):=Lib.hid (by rw [HG.out,if_neg (fun h => h c1)]);have hcon:=containsS_any TR c2 lo1 tr d.trick w0 (HR.out.below hb) hrl;unfold encStr at hcon;clear c1 HG
  obtain ⟨tb,htb⟩ : ∃ tb : Bool,tb = decide (d.trick ∈ tr):=⟨_,rfl⟩
  rw [← htb] at hcon;have HTB:=Lib.hid htb;clear htb;have hcf:=dfX_any w.heap.size pc lo2 lo3 d.nc P d.N th d.needs w0 p1 (HT.out.below hb) hthl (HN.out.below hb) hnl;rw [any_needs] at hcf
  obtain ⟨nb,hnb⟩ : ∃ nb : Bool,nb = decide (∀ s ∈ d.needs,s ∈ th):=⟨_,rfl⟩
  rw [← hnb] at hcf;have HNB:=Lib.hid hnb;clear hnb
  by_cases c2 : d.trick = []
  ·have e2 : (d.trick == []) = true:=beq_iff_eq.2 c2
   have e3 : d.trick.isEmpty = true:=by rw [c2]; rfl
   have HG3 : Hid (goE tr room th d = if nb = true then 0 else 11):=Lib.hid (by
    rw [HG2.out,if_neg (fun h => h.1 c2),HNB.out]
    by_cases hh : ∀ s ∈ d.needs,s ∈ th
    ·rw [if_neg (fun h => h hh),if_pos (decide_eq_true hh)]
    ·rw [if_pos hh,if_neg (by simpa using hh)])
   clear c2 hcon;go_wp2_with fail;refine hcf.mono ?_;rintro e w2 ⟨rfl,hb2⟩;clear hcf
   cases nb with
   | true =>
    go_wp2_with fail;go_ret;exact ⟨ret_int' HG3.out.symm,below_up hb hb2⟩
   | false =>
    go_wp2_with fail;go_ret;exact ⟨ret_int' HG3.out.symm,below_up hb hb2⟩
  ·have e2 : (d.trick == []) = false:=beq_eq_false_iff_ne.2 c2
   have e3 : d.trick.isEmpty = false:=by cases h : d.trick with | nil => exact absurd h c2 | cons a l => rfl
   have HC2:=Lib.hid c2;clear c2;go_wp2_with fail;refine hcon.mono ?_;rintro e w1 ⟨rfl,rfl⟩;clear hcon
   cases tb with
   | true =>
    have HG3 : Hid (goE tr room th d = if nb = true then 0 else 11):=Lib.hid (by
     rw [HG2.out,if_neg (fun h => h.2 (of_decide_eq_true HTB.out.symm)),HNB.out]
     by_cases hh : ∀ s ∈ d.needs,s ∈ th
     ·rw [if_neg (fun h => h hh),if_pos (decide_eq_true hh)]
     ·rw [if_pos hh,if_neg (by simpa using hh)])
    go_wp2_with fail;refine hcf.mono ?_;rintro e w2 ⟨rfl,hb2⟩;clear hcf
    cases nb with
    | true =>
     go_wp2_with fail;go_ret;exact ⟨ret_int' HG3.out.symm,below_up hb hb2⟩
    | false =>
     go_wp2_with fail;go_ret;exact ⟨ret_int' HG3.out.symm,below_up hb hb2⟩
   | false =>
    have HG3 : Hid (goE tr room th d = 16):=Lib.hid (by rw [HG2.out,if_pos ⟨HC2.out,of_decide_eq_false HTB.out.symm⟩]);clear hcf;go_wp2_with fail;go_ret;exact ⟨ret_int' HG3.out.symm,hb⟩
 ·have e1 : (room == d.src) = false:=beq_eq_false_iff_ne.2 c1
  have HG2 : Hid (goE tr room th d = 3):=Lib.hid (by rw [HG.out,if_pos c1]);clear c1;go_wp2_with fail;go_ret;exact ⟨ret_int' HG2.out.symm,hb⟩
theorem thC_any (x : List UInt8) (kb c lo : Nat) (A : Option Addr) (tk : List (List UInt8)) (w : World) (h1 : w.cell? ⟨kb,5,none⟩ = some (.slice A tk.length c)) (hr : Row w lo 1 A tk.length (strs tk)) (hl : tk.length ≤ 1000000000) :
  Calls Tryz.prog 135 #[encStr x,.pointer (some ⟨kb,0,none⟩)] w fun e w' => e = .returned (.bool (decide (x ∈ tk))) ∧ ∃ q,w' = w.drewN q:=by
 have hcon:=containsS_any A c lo tk x w hr hl;unfold encStr at hcon ⊢
 go_enter Tryz.func135,Tryz.ntmps135
 go_wp2_with fail;refine hcon.mono ?_;rintro e w1 ⟨rfl,rfl⟩;go_wp2_with fail;go_ret;exact ⟨rfl,0,rfl⟩
theorem delT_any (A DT : Option Addr) (c dc lo base kb : Nat) (zs tk : List (List UInt8)) (w0 w : World) (ho : w.ownsRow base 9 1 (.slice A zs.length c) zs.length (strs zs)) (hl : zs.length ≤ 1000000000) (hb : Below w0.heap.size w0 w) (hbase : w0.heap.size ≤ base)
  (HK : ∀ W,Below w0.heap.size w0 W → W.cell? ⟨kb,5,none⟩ = some (.slice DT tk.length dc) ∧ Row W lo 1 DT tk.length (strs tk)) (htl : tk.length ≤ 1000000000) :
  Calls Tryz.prog 134 #[.slice A zs.length c,.func (.func 135) #[] #[.pointer (some ⟨kb,0,none⟩)]] w fun e w' => e = .returned (.slice A (zs.filter fun x => !decide (x ∈ tk)).length c) ∧ w'.ownsRow base 9 1 (.slice A (zs.filter fun x => !decide (x ∈ tk)).length c) (zs.filter fun x => !decide (x ∈ tk)).length (strs (zs.filter fun x => !decide (x ∈ tk))) ∧ w.grownBy w' (Value.slice A zs.length c).ownBlock:=by
 have eg : ∀ args w,(callFunc 135 args).run Tryz.prog w = .ok (.enter 135 args) w:=enters_of Tryz.func135 (by kernel_rfl) rfl;rcases ho.2 with ⟨hv,h0⟩ | ⟨g,cap,cur,hv,hg,hh,hcap,hm,hcs,ht⟩
 ·have hz : zs = []:=List.eq_nil_of_length_eq_zero h0
  subst hz;injection hv with e1 _ e2;subst e1 e2;have hix:=AnyE.slices_IndexFunc_empty Tryz.layIdx none 0 (.func (.func 135) #[] #[.pointer (some ⟨kb,0,none⟩)]) w;change Calls Tryz.prog 137 _ _ _ at hix;simp only [List.length_nil,List.filter_nil];have HO:=Lib.hid ho;clear ho hb HK
  go_enter Tryz.func134,Tryz.ntmps134
  go_wp2_with fail;refine hix.mono ?_;rintro e w1 ⟨rfl,rfl⟩;clear hix;go_wp2_with fail;go_ret;exact ⟨rfl,HO.out,World.grownBy.refl _ _⟩
 ·injection hv with e1 _ e2
  subst e1 e2;rw [Nat.mul_one] at ht
  have hp : PredAt Tryz.prog 135 #[.pointer (some ⟨kb,0,none⟩)] encStr (fun x => decide (x ∈ tk)) w:=fun W x hW => by
   obtain ⟨k1,k2⟩:=HK W (hb.trans (hW.mono hb.size));exact thC_any x kb dc lo DT tk W k1 k2 htl
  have hpo : PredOver Tryz.prog 135 #[.pointer (some ⟨kb,0,none⟩)] encStr (fun x => decide (x ∈ tk)) g 0 zs.toArray.size w:=fun n os dk x _ => by
   have hgb : w.grownBy (sortWorld encStr w g 0 n dk os) (some g):=grownBy_sorted dk;obtain ⟨k1,k2⟩:=HK _ (hb.grown hgb hb.size (fun q hq => by injection hq with hq; omega));exact thC_any x kb dc lo DT tk _ k1 k2 htl
  have:=AnyE.slices_DeleteFunc Tryz.layDel encStr oneS (fun x => decide (x ∈ tk)) 135 #[.pointer (some ⟨kb,0,none⟩)] eg [] (fun w => Tryz.zeroValue9 w) g 0 c zs.toArray w hp hpo (holds_of_block hh ht) (by simp; omega) (by simpa using hcap);rw [show zs.toArray.size = zs.length by simp,show zs.toArray.toList = zs by simp] at this;refine this.mono ?_;rintro e w' ⟨rfl,q,rfl⟩;have hle : (zs.filter fun x => !decide (x ∈ tk)).length ≤ zs.length:=List.length_filter_le _ _;rw [← grow_nil (putRow _ _ _ _ _)];refine ⟨rfl,⟨by simp [strs],.inr ⟨g,c,_,rfl,hg,heap_sorted _ hh,by omega,hm,by simp [putCells,hcs],?_⟩⟩,grownBy_sorted _⟩;rw [Nat.mul_one];exact take_pad _ _ _ (by omega)
theorem res_thru (tmps : Array Value) (w : World) (g : Nat) (a b : Value) (ka : List UInt8) (B : Option Addr) (n c : Nat) (ha : a = .string ⟨ka.toArray⟩) (hb : b = .slice B n c) (hx : tmps.getD 6 undef = .pointer (some ⟨g,0,none⟩)) (f0 : w.cell? ⟨g,0,none⟩ = some a) (f1 : w.cell? ⟨g,1,none⟩ = some b) :
  (results Tryz.f68 tmps).run Tryz.prog w = .ok (.agg #[a,b]) w:=by
 have e : Tryz.f68.results = #[.cell 6 35]:=by kernel_rfl
 have hx' : tmps[6]?.getD undef = .pointer (some ⟨g,0,none⟩):=by simpa using hx
 subst ha hb
 simp [results,e,hx',go_sem,f0,f1]
def PtC (w : World) (key : List UInt8) (l : List (List UInt8)) (e : Ending) (w' : World) : Prop:=∃ A c,e = .returned (.agg #[.string ⟨key.toArray⟩,.slice A l.length c]) ∧ Row w' w.heap.size 1 A l.length (strs l) ∧ l.length ≤ c ∧ Below w.heap.size w w'
theorem PtC.pt {w w' : World} {key : List UInt8} {l : List (List UInt8)} {e : Ending} (h : PtC w key l e w') : PtPost w key l e w' :=
 let ⟨A,c,h1,h2,_,h4⟩:=h; ⟨A,c,h1,h2,h4⟩
theorem own_room {w : World} {base : Nat} {e : TypeId} {size n c : Nat} {A : Option Addr} {xs : List Value} (h : w.ownsRow base e size (.slice A n c) n xs) : n ≤ c:=by
 rcases h.2 with ⟨_,h0⟩ | ⟨g,cap,cur,hv,_,_,hcap,_⟩
 ·omega
 ·injection hv with _ _ h3
  omega
set_option maxHeartbeats 8000000 in
set_option maxRecDepth 100000 in
theorem throughC_any (lo ca cd lo2 pc : Nat) (A : Option Addr) (rs : List RoomE) (D : Option Addr) (ds : List DoorE) (st gl : List UInt8) (P : Option Addr) (th : List (List UInt8)) (room : List UInt8) (d : DoorE) (w : World) (hA : MapW w lo A rs D ds) (hup : UpS (rs.map RoomE.key)) (hdst : d.dst ∈ rs.map RoomE.key) (hth : Row w lo2 1 P th.length (strs th)) (hthl : th.length ≤ 1000000) (htk : Row w lo 1 d.T d.takes.length (strs d.takes)) (htkl : d.takes.length ≤ 1000000) :
  Calls Tryz.prog 68 #[.agg #[.slice A rs.length ca,.slice D ds.length cd,.string ⟨st.toArray⟩,.string ⟨gl.toArray⟩],.agg #[.string ⟨room.toArray⟩,.slice P th.length pc],.agg #[.string ⟨d.key.toArray⟩,.string ⟨d.src.toArray⟩,.string ⟨d.dst.toArray⟩,.int .i64 d.time,.slice d.N d.needs.length d.nc,.slice d.T d.takes.length d.tc,.string ⟨d.trick.toArray⟩]] w (PtC w d.dst (thru rs th d)):=by
 have hb4 : Below w.heap.size w ((((w.alloc (.cells #[.slice A rs.length ca,.slice D ds.length cd,.string ⟨st.toArray⟩,.string ⟨gl.toArray⟩] 29)).alloc (.cells #[.string ⟨room.toArray⟩,.slice P th.length pc] 35)).alloc (.cells #[.string ⟨d.key.toArray⟩,.string ⟨d.src.toArray⟩,.string ⟨d.dst.toArray⟩,.int .i64 d.time,.slice d.N d.needs.length d.nc,.slice d.T d.takes.length d.tc,.string ⟨d.trick.toArray⟩] 120)).alloc (.cells #[.string ⟨#[]⟩,.slice none 0 0] 35)):=(by repeat (first | exact Below.refl _ _ | refine Below.alloc ?_ (by first | omega | (simp; omega) | simp) _ | refine below_drewN' ?_ _ | refine Below.drew ?_))
 have hM : Blk ((((w.alloc (.cells #[.slice A rs.length ca,.slice D ds.length cd,.string ⟨st.toArray⟩,.string ⟨gl.toArray⟩] 29)).alloc (.cells #[.string ⟨room.toArray⟩,.slice P th.length pc] 35)).alloc (.cells #[.string ⟨d.key.toArray⟩,.string ⟨d.src.toArray⟩,.string ⟨d.dst.toArray⟩,.int .i64 d.time,.slice d.N d.needs.length d.nc,.slice d.T d.takes.length d.tc,.string ⟨d.trick.toArray⟩] 120)).alloc (.cells #[.string ⟨#[]⟩,.slice none 0 0] 35)) w.heap.size 29 #[.slice A rs.length ca,.slice D ds.length cd,.string ⟨st.toArray⟩,.string ⟨gl.toArray⟩]:=(((Blk.new _ _ _).alloc _).alloc _).alloc _;have hP : Blk ((((w.alloc (.cells #[.slice A rs.length ca,.slice D ds.length cd,.string ⟨st.toArray⟩,.string ⟨gl.toArray⟩] 29)).alloc (.cells #[.string ⟨room.toArray⟩,.slice P th.length pc] 35)).alloc (.cells #[.string ⟨d.key.toArray⟩,.string ⟨d.src.toArray⟩,.string ⟨d.dst.toArray⟩,.int .i64 d.time,.slice d.N d.needs.length d.nc,.slice d.T d.takes.length d.tc,.string ⟨d.trick.toArray⟩] 120)).alloc (.cells #[.string ⟨#[]⟩,.slice none 0 0] 35)) (w.heap.size + 1) 35 #[.string ⟨room.toArray⟩,.slice P th.length pc]:=((Blk.at_ _ (by simp)).alloc _).alloc _;have hD : Blk ((((w.alloc (.cells #[.slice A rs.length ca,.slice D ds.length cd,.string ⟨st.toArray⟩,.string ⟨gl.toArray⟩] 29)).alloc (.cells #[.string ⟨room.toArray⟩,.slice P th.length pc] 35)).alloc (.cells #[.string ⟨d.key.toArray⟩,.string ⟨d.src.toArray⟩,.string ⟨d.dst.toArray⟩,.int .i64 d.time,.slice d.N d.needs.length d.nc,.slice d.T d.takes.length d.tc,.string ⟨d.trick.toArray⟩] 120)).alloc (.cells #[.string ⟨#[]⟩,.slice none 0 0] 35)) (w.heap.size + 2) 120 #[.string ⟨d.key.toArray⟩,.string ⟨d.src.toArray⟩,.string ⟨d.dst.toArray⟩,.int .i64 d.time,.slice d.N d.needs.length d.nc,.slice d.T d.takes.length d.tc,.string ⟨d.trick.toArray⟩]:=(Blk.at_ _ (by simp)).alloc _;have hR : Blk ((((w.alloc (.cells #[.slice A rs.length ca,.slice D ds.length cd,.string ⟨st.toArray⟩,.string ⟨gl.toArray⟩] 29)).alloc (.cells #[.string ⟨room.toArray⟩,.slice P th.length pc] 35)).alloc (.cells #[.string ⟨d.key.toArray⟩,.string ⟨d.src.toArray⟩,.string ⟨d.dst.toArray⟩,.int .i64 d.time,.slice d.N d.needs.length d.nc,.slice d.T d.takes.length d.tc,.string ⟨d.trick.toArray⟩] 120)).alloc (.cells #[.string ⟨#[]⟩,.slice none 0 0] 35)) (w.heap.size + 3) 35 #[.string ⟨#[]⟩,.slice none 0 0]:=Blk.at_ _ (by simp);have hi:=ixR_lt hdst;have hrl:=hA.s.rl;have HIX:=Lib.hid (roomI_mem hdst)
 obtain ⟨r,hr⟩ : ∃ r,r = rs[ixR rs d.dst]'hi:=⟨_,rfl⟩
 have hmem : r ∈ rs:=by rw [hr]; exact List.getElem_mem _
 have hgl:=(hA.s.rg _ hmem).1;have HGV : Hid (r.gives = givesOf rs d.dst):=Lib.hid (by rw [hr]; exact ixR_gives hup hdst)
 obtain ⟨fl,hfl⟩ : ∃ fl,fl = th.filter (fun s => decide (s ∉ d.takes)):=⟨_,rfl⟩
 have HFL : Hid ((th.filter fun x => !decide (x ∈ d.takes)) = fl):=Lib.hid (by rw [hfl]; refine List.filter_congr fun x _ => ?_; simp)
 have hfll : fl.length ≤ 1000000:=by
  have:=List.length_filter_le (fun s => decide (s ∉ d.takes)) th;rw [hfl]; omega
 obtain ⟨res,hres⟩ : ∃ res,thru rs th d = res:=⟨_,rfl⟩
 rw [hres];have HTH : Hid (onceT (fl ++ r.gives) = res):=Lib.hid (by rw [← hres,hfl,HGV.out]; rfl);clear hfl hres;obtain ⟨ab,aoff,rfl,hab,hcell⟩:=hA.room (by omega);have hc1:=(hcell _ hi).2;rw [← hr] at hc1
 have HK : Hid (∀ W,Below ((((w.alloc (.cells #[.slice (some ⟨ab,aoff,none⟩) rs.length ca,.slice D ds.length cd,.string ⟨st.toArray⟩,.string ⟨gl.toArray⟩] 29)).alloc (.cells #[.string ⟨room.toArray⟩,.slice P th.length pc] 35)).alloc (.cells #[.string ⟨d.key.toArray⟩,.string ⟨d.src.toArray⟩,.string ⟨d.dst.toArray⟩,.int .i64 d.time,.slice d.N d.needs.length d.nc,.slice d.T d.takes.length d.tc,.string ⟨d.trick.toArray⟩] 120)).alloc (.cells #[.string ⟨#[]⟩,.slice none 0 0] 35)).heap.size ((((w.alloc (.cells #[.slice (some ⟨ab,aoff,none⟩) rs.length ca,.slice D ds.length cd,.string ⟨st.toArray⟩,.string ⟨gl.toArray⟩] 29)).alloc (.cells #[.string ⟨room.toArray⟩,.slice P th.length pc] 35)).alloc (.cells #[.string ⟨d.key.toArray⟩,.string ⟨d.src.toArray⟩,.string ⟨d.dst.toArray⟩,.int .i64 d.time,.slice d.N d.needs.length d.nc,.slice d.T d.takes.length d.tc,.string ⟨d.trick.toArray⟩] 120)).alloc (.cells #[.string ⟨#[]⟩,.slice none 0 0] 35)) W → MapW W lo (some ⟨ab,aoff,none⟩) rs D ds ∧ Row W lo 1 r.B r.gives.length (strs r.gives) ∧ (W.cell? ⟨w.heap.size + 2,5,none⟩ = some (.slice d.T d.takes.length d.tc) ∧ Row W lo 1 d.T d.takes.length (strs d.takes))):=Lib.hid (fun W hW => by
  have hw : Below w.heap.size w W:=hb4.trans (hW.mono hb4.size)
  exact ⟨hA.below hw,((hA.below hw).gives _ hmem).1,(hD.below hW).w7.2.2.2.2.2.1,htk.below hw⟩)
 have HS : Hid (∀ W,Below ((((w.alloc (.cells #[.slice (some ⟨ab,aoff,none⟩) rs.length ca,.slice D ds.length cd,.string ⟨st.toArray⟩,.string ⟨gl.toArray⟩] 29)).alloc (.cells #[.string ⟨room.toArray⟩,.slice P th.length pc] 35)).alloc (.cells #[.string ⟨d.key.toArray⟩,.string ⟨d.src.toArray⟩,.string ⟨d.dst.toArray⟩,.int .i64 d.time,.slice d.N d.needs.length d.nc,.slice d.T d.takes.length d.tc,.string ⟨d.trick.toArray⟩] 120)).alloc (.cells #[.string ⟨#[]⟩,.slice none 0 0] 35)).heap.size ((((w.alloc (.cells #[.slice (some ⟨ab,aoff,none⟩) rs.length ca,.slice D ds.length cd,.string ⟨st.toArray⟩,.string ⟨gl.toArray⟩] 29)).alloc (.cells #[.string ⟨room.toArray⟩,.slice P th.length pc] 35)).alloc (.cells #[.string ⟨d.key.toArray⟩,.string ⟨d.src.toArray⟩,.string ⟨d.dst.toArray⟩,.int .i64 d.time,.slice d.N d.needs.length d.nc,.slice d.T d.takes.length d.tc,.string ⟨d.trick.toArray⟩] 120)).alloc (.cells #[.string ⟨#[]⟩,.slice none 0 0] 35)) W → (fun w' : World => w'.cell? ⟨w.heap.size,0,none⟩ = some (.slice (some ⟨ab,aoff,none⟩) rs.length ca) ∧ w'.cell? ⟨w.heap.size,1,none⟩ = some (.slice D ds.length cd) ∧ w'.cell? ⟨w.heap.size,2,none⟩ = some (.string ⟨st.toArray⟩) ∧ w'.cell? ⟨w.heap.size,3,none⟩ = some (.string ⟨gl.toArray⟩) ∧ w'.cell? ⟨w.heap.size + 2,2,none⟩ = some (.string ⟨d.dst.toArray⟩) ∧ w'.cell? ⟨ab,aoff + ixR rs d.dst * 2 + 1,none⟩ = some (.slice r.B r.gives.length r.c)) W):=Lib.hid (fun W hW => by
  have hw : Below w.heap.size w W:=hb4.trans (hW.mono hb4.size);have hm:=hM.below hW
  exact ⟨hm.cell 0,hm.cell 1,hm.cell 2,hm.cell 3,(hD.below hW).cell 2,(hw.cell (p:=⟨ab,aoff + ixR rs d.dst * 2 + 1,none⟩) hab).trans hc1⟩)
 have HRS : Hid (∀ W,Below ((((w.alloc (.cells #[.slice (some ⟨ab,aoff,none⟩) rs.length ca,.slice D ds.length cd,.string ⟨st.toArray⟩,.string ⟨gl.toArray⟩] 29)).alloc (.cells #[.string ⟨room.toArray⟩,.slice P th.length pc] 35)).alloc (.cells #[.string ⟨d.key.toArray⟩,.string ⟨d.src.toArray⟩,.string ⟨d.dst.toArray⟩,.int .i64 d.time,.slice d.N d.needs.length d.nc,.slice d.T d.takes.length d.tc,.string ⟨d.trick.toArray⟩] 120)).alloc (.cells #[.string ⟨#[]⟩,.slice none 0 0] 35)).heap.size ((((w.alloc (.cells #[.slice (some ⟨ab,aoff,none⟩) rs.length ca,.slice D ds.length cd,.string ⟨st.toArray⟩,.string ⟨gl.toArray⟩] 29)).alloc (.cells #[.string ⟨room.toArray⟩,.slice P th.length pc] 35)).alloc (.cells #[.string ⟨d.key.toArray⟩,.string ⟨d.src.toArray⟩,.string ⟨d.dst.toArray⟩,.int .i64 d.time,.slice d.N d.needs.length d.nc,.slice d.T d.takes.length d.tc,.string ⟨d.trick.toArray⟩] 120)).alloc (.cells #[.string ⟨#[]⟩,.slice none 0 0] 35)) W → Blk W (w.heap.size + 3) 35 #[.string ⟨#[]⟩,.slice none 0 0]):=Lib.hid (fun W hW => hR.below hW);have HTW:=Lib.hid (hth.below hb4);have hz4 : w.heap.size + 3 < ((((w.alloc (.cells #[.slice (some ⟨ab,aoff,none⟩) rs.length ca,.slice D ds.length cd,.string ⟨st.toArray⟩,.string ⟨gl.toArray⟩] 29)).alloc (.cells #[.string ⟨room.toArray⟩,.slice P th.length pc] 35)).alloc (.cells #[.string ⟨d.key.toArray⟩,.string ⟨d.src.toArray⟩,.string ⟨d.dst.toArray⟩,.int .i64 d.time,.slice d.N d.needs.length d.nc,.slice d.T d.takes.length d.tc,.string ⟨d.trick.toArray⟩] 120)).alloc (.cells #[.string ⟨#[]⟩,.slice none 0 0] 35)).heap.size:=hR.lt;obtain ⟨-,p1⟩:=hP.two_
 have hi0 : (0 : Int) ≤ (ixR rs d.dst : Int):=by omega
 have hi1 : (ixR rs d.dst : Int) < (rs.length : Int):=by omega
 have hab4 : ab < w.heap.size:=hab;clear hA hth htk hcell hM hP hD hR hc1 hmem hr hup
 go_enter Tryz.func68,Tryz.ntmps68
 go_upto_region 1 with (fail);generalize ((((w.alloc (.cells #[.slice (some ⟨ab,aoff,none⟩) rs.length ca,.slice D ds.length cd,.string ⟨st.toArray⟩,.string ⟨gl.toArray⟩] 29)).alloc (.cells #[.string ⟨room.toArray⟩,.slice P th.length pc] 35)).alloc (.cells #[.string ⟨d.key.toArray⟩,.string ⟨d.src.toArray⟩,.string ⟨d.dst.toArray⟩,.int .i64 d.time,.slice d.N d.needs.length d.nc,.slice d.T d.takes.length d.tc,.string ⟨d.trick.toArray⟩] 120)).alloc (.cells #[.string ⟨#[]⟩,.slice none 0 0] 35)) = w4 at *;go_wp2_with fail;refine (cloneS_any P pc lo2 th _ HTW.out (by omega)).mono ?_;rintro e w5 ⟨A5,c5,rfl,ho5,hb5⟩;have hdl:=delT_any A5 d.T c5 d.tc lo w4.heap.size (w.heap.size + 2) th d.takes w4 w5 ho5 (by omega) hb5 (Nat.le_refl _) (fun W hW => (HK.out W hW).2.2) (by omega);rw [HFL.out] at hdl;clear p1;go_wp2_with fail;refine hdl.mono ?_;rintro e w6 ⟨rfl,hown,hg6⟩;have hbx : Below w4.heap.size w4 w6:=hb5.grown hg6 hb5.size (fun q hq => (ho5.lt q hq).1);clear hdl ho5 hb5 hg6;have hsc:=HS.out _ hbx;go_upto_region 2 with (fail);have hsc : (fun w' : World => w'.cell? ⟨w.heap.size,0,none⟩ = some (.slice (some ⟨ab,aoff,none⟩) rs.length ca) ∧ w'.cell? ⟨w.heap.size,1,none⟩ = some (.slice D ds.length cd) ∧ w'.cell? ⟨w.heap.size,2,none⟩ = some (.string ⟨st.toArray⟩) ∧ w'.cell? ⟨w.heap.size,3,none⟩ = some (.string ⟨gl.toArray⟩) ∧ w'.cell? ⟨w.heap.size + 2,2,none⟩ = some (.string ⟨d.dst.toArray⟩) ∧ w'.cell? ⟨ab,aoff + ixR rs d.dst * 2 + 1,none⟩ = some (.slice r.B r.gives.length r.c)) w6.drew:=hsc;replace hbx : Below w4.heap.size w4 w6.drew:=hbx.drew;replace hown : w6.drew.ownsRow w4.heap.size 9 1 (.slice A5 fl.length c5) fl.length (strs fl):=hown;refine wp_region_held_drew (S:=(fun w' => w'.cell? ⟨w.heap.size,0,none⟩ = some (.slice (some ⟨ab,aoff,none⟩) rs.length ca) ∧ w'.cell? ⟨w.heap.size,1,none⟩ = some (.slice D ds.length cd) ∧ w'.cell? ⟨w.heap.size,2,none⟩ = some (.string ⟨st.toArray⟩) ∧ w'.cell? ⟨w.heap.size,3,none⟩ = some (.string ⟨gl.toArray⟩) ∧ w'.cell? ⟨w.heap.size + 2,2,none⟩ = some (.string ⟨d.dst.toArray⟩) ∧ w'.cell? ⟨ab,aoff + ixR rs d.dst * 2 + 1,none⟩ = some (.slice r.B r.gives.length r.c))) (by kernel_rfl) (hsc) (fun hHeld => ?_);(refine QU 0 ?_; (try simp only [Act.put,Q3,Q4,Q5]));(refine QU 1 ?_; (try simp only [Act.put,Q3,Q4,Q5]));(refine QU 2 ?_; (try simp only [Act.put,Q3,Q4,Q5]));(refine QU 3 ?_; (try simp only [Act.put,Q3,Q4,Q5]));(refine QU 4 ?_; (try simp only [Act.put,Q3,Q4,Q5]));(refine QU 5 ?_; (try simp only [Act.put,Q3,Q4,Q5]));(refine QU 6 ?_; (try simp only [Act.put,Q3,Q4,Q5]));(refine QU 7 ?_; (try simp only [Act.put,Q3,Q4,Q5]));refine QR 8 fun K hK => ?_;go_simp;go_at_call 22;have hra:=rRoomAt_any lo ca cd (some ⟨ab,aoff,none⟩) rs D ds st gl d.dst _ (HK.out _ hbx).1;unfold mapV at hra;simp only [encStr] at hra;rw [show keyI (rs.map RoomE.key) d.dst = (ixR rs d.dst : Int) from HIX.out] at hra;refine hra.mono ?_;rintro e wa ⟨rfl,hb⟩;clear hra;replace hbx:=hbx.trans (hb.mono hbx.size);have hown:=own_keep hown hb;have hsc:=HS.out _ hbx;have hga:=(HK.out _ hbx).2.1;clear hb;go_wp2_with fail;refine hK.out _ _ (hsc) (fun hHeld => ?_);clear hK K;(try simp only [Act.put,Q3,Q4,Q5]);(refine QU 9 ?_; (try simp only [Act.put,Q3,Q4,Q5]));(refine QU 10 ?_; (try simp only [Act.put,Q3,Q4,Q5]));(refine QU 11 ?_; (try simp only [Act.put,Q3,Q4,Q5]));refine QR 12 fun K hK => ?_;refine step_app (lo:=lo) (base:=w4.heap.size) (n:=fl.length) (xs:=strs fl) _ rfl _ _ ty_strs rfl hown rfl hga rfl (strs_all _) (by omega) (by omega) hbx.size ?_;intro A6 c6 w6 hown6 hg6 _;replace hbx:=hbx.grown hg6 hbx.size (fun q hq => (hown.lt q hq).1);have hsc:=HS.out _ hbx;have HO6 : Hid (Row w6 w4.heap.size 1 A6 (fl ++ r.gives).length (strs (fl ++ r.gives))):=Lib.hid (Row.of_own (by simpa [strs] using hown6));clear hown6 hg6 hown hga;refine hK.out _ _ (hsc) (fun hHeld => ?_);clear hK K;(try simp only [Act.put,Q3,Q4,Q5]);refine QR 13 fun K hK => ?_;go_simp;go_at_call 92;have hon:=onceR_any A6 c6 w4.heap.size (fl ++ r.gives) w6 HO6.out (by rw [List.length_append]; omega);rw [HTH.out,List.length_append] at hon;refine hon.mono ?_;rintro e w7 ⟨A7,c7,rfl,ho7,hb7⟩;clear hon;have HC7 : Hid (res.length ≤ c7):=Lib.hid (own_room ho7);have HO7 : Hid (Row w7 w4.heap.size 1 A7 res.length (strs res)):=Lib.hid (Row.of_own (own_down9 ho7 hbx.size));replace hbx:=hbx.trans (hb7.mono hbx.size);have hsc:=HS.out _ hbx;clear ho7 hb7;go_wp2_with fail;refine hK.out _ _ (hsc) (fun hHeld => ?_);clear hK K;(try simp only [Act.put,Q3,Q4,Q5]);(refine QU 14 ?_; (try simp only [Act.put,Q3,Q4,Q5]));refine QR 15 fun K hK => ?_;have hr7:=HRS.out w7 hbx;have z0 : w7.cell? ⟨w.heap.size + 3,0,none⟩ = some (.string ⟨#[]⟩):=hr7.cell 0;have z1 : w7.cell? ⟨w.heap.size + 3,1,none⟩ = some (.slice none 0 0):=hr7.cell 1;have f0:=hr7.thaw 0;have f1:=hr7.thaw 1;have hz7:=hbx.size;have hr8:=(hr7.poke 0 (.string ⟨d.dst.toArray⟩)).poke 1 (.slice A7 res.length c7);have hb8 : Below w.heap.size w ((w7.setCell ⟨w.heap.size + 3,0,none⟩ (.string ⟨d.dst.toArray⟩)).setCell ⟨w.heap.size + 3,1,none⟩ (.slice A7 res.length c7)):=Below.setCell (Below.setCell (hb4.trans (hbx.mono hb4.size)) (by simp) _) (by simp) _;have HR8 : Hid (Row ((w7.setCell ⟨w.heap.size + 3,0,none⟩ (.string ⟨d.dst.toArray⟩)).setCell ⟨w.heap.size + 3,1,none⟩ (.slice A7 res.length c7)) w.heap.size 1 A7 res.length (strs res)):=Lib.hid (((HO7.out.set_low _ 0 _ hz4).set_low _ 1 _ hz4).weak hb4.size)
 have hs8 : (fun w' : World => w'.cell? ⟨w.heap.size,0,none⟩ = some (.slice (some ⟨ab,aoff,none⟩) rs.length ca) ∧ w'.cell? ⟨w.heap.size,1,none⟩ = some (.slice D ds.length cd) ∧ w'.cell? ⟨w.heap.size,2,none⟩ = some (.string ⟨st.toArray⟩) ∧ w'.cell? ⟨w.heap.size,3,none⟩ = some (.string ⟨gl.toArray⟩) ∧ w'.cell? ⟨w.heap.size + 2,2,none⟩ = some (.string ⟨d.dst.toArray⟩) ∧ w'.cell? ⟨ab,aoff + ixR rs d.dst * 2 + 1,none⟩ = some (.slice r.B r.gives.length r.c)) ((w7.setCell ⟨w.heap.size + 3,0,none⟩ (.string ⟨d.dst.toArray⟩)).setCell ⟨w.heap.size + 3,1,none⟩ (.slice A7 res.length c7)):=by
  obtain ⟨a1,a2,a3,a4,a5,a6⟩:=hsc;exact ⟨cell_off (cell_off a1 (by simp)) (by simp),cell_off (cell_off a2 (by simp)) (by simp),cell_off (cell_off a3 (by simp)) (by simp),cell_off (cell_off a4 (by simp)) (by simp),cell_off (cell_off a5 (by simp)) (by simp),cell_off (cell_off a6 (by simp; omega)) (by simp; omega)⟩
 go_simp;refine hK.out _ _ (hs8) (fun hHeld => ?_);clear hK K;(try simp only [Act.put,Q3,Q4,Q5]);refine wpAnyH_done (by kernel_rfl) ?_ _;go_wp2_with fail;refine bodyPost_ret (res_thru _ _ (w.heap.size + 3) _ _ d.dst A7 res.length c7 rfl rfl rfl (hr8.cell 0) (hr8.cell 1)) rfl ?_;exact ⟨A7,c7,rfl,HR8.out,HC7.out,hb8⟩
theorem res_first (tmps : Array Value) (w : World) (g : Nat) (a b : Value) (ka : List UInt8) (B : Option Addr) (n c : Nat) (ha : a = .string ⟨ka.toArray⟩) (hb : b = .slice B n c) (hx : tmps.getD 2 undef = .pointer (some ⟨g,0,none⟩)) (f0 : w.cell? ⟨g,0,none⟩ = some a) (f1 : w.cell? ⟨g,1,none⟩ = some b) :
  (results Tryz.f64 tmps).run Tryz.prog w = .ok (.agg #[a,b]) w:=by
 have e : Tryz.f64.results = #[.cell 2 35]:=by kernel_rfl
 have hx' : tmps[2]?.getD undef = .pointer (some ⟨g,0,none⟩):=by simpa using hx
 subst ha hb
 simp [results,e,hx',go_sem,f0,f1]
set_option maxHeartbeats 8000000 in
set_option maxRecDepth 100000 in
theorem firstPointC_any (lo ca cd : Nat) (A : Option Addr) (rs : List RoomE) (D : Option Addr) (ds : List DoorE) (st gl : List UInt8) (w : World) (hA : MapW w lo A rs D ds) (hup : UpS (rs.map RoomE.key)) (hst : st ∈ rs.map RoomE.key) :
  Calls Tryz.prog 64 #[.agg #[.slice A rs.length ca,.slice D ds.length cd,.string ⟨st.toArray⟩,.string ⟨gl.toArray⟩]] w (PtC w st (onceT (givesOf rs st))):=by
 have hb4 : Below w.heap.size w ((w.alloc (.cells #[.slice A rs.length ca,.slice D ds.length cd,.string ⟨st.toArray⟩,.string ⟨gl.toArray⟩] 29)).alloc (.cells #[.string ⟨#[]⟩,.slice none 0 0] 35)):=(by repeat (first | exact Below.refl _ _ | refine Below.alloc ?_ (by first | omega | (simp; omega) | simp) _ | refine below_drewN' ?_ _ | refine Below.drew ?_))
 have hM : Blk ((w.alloc (.cells #[.slice A rs.length ca,.slice D ds.length cd,.string ⟨st.toArray⟩,.string ⟨gl.toArray⟩] 29)).alloc (.cells #[.string ⟨#[]⟩,.slice none 0 0] 35)) w.heap.size 29 #[.slice A rs.length ca,.slice D ds.length cd,.string ⟨st.toArray⟩,.string ⟨gl.toArray⟩]:=(Blk.new _ _ _).alloc _;have hR : Blk ((w.alloc (.cells #[.slice A rs.length ca,.slice D ds.length cd,.string ⟨st.toArray⟩,.string ⟨gl.toArray⟩] 29)).alloc (.cells #[.string ⟨#[]⟩,.slice none 0 0] 35)) (w.heap.size + 1) 35 #[.string ⟨#[]⟩,.slice none 0 0]:=Blk.at_ _ (by simp);have hi:=ixR_lt hst;have hrl:=hA.s.rl;have HIX:=Lib.hid (roomI_mem hst)
 obtain ⟨r,hr⟩ : ∃ r,r = rs[ixR rs st]'hi:=⟨_,rfl⟩
 have hmem : r ∈ rs:=by rw [hr]; exact List.getElem_mem _
 have hgl:=(hA.s.rg _ hmem).1
 obtain ⟨res,hres⟩ : ∃ res,onceT (givesOf rs st) = res:=⟨_,rfl⟩
 rw [hres];have HTH : Hid (onceT r.gives = res):=Lib.hid (by rw [← hres,hr,ixR_gives hup hst]);obtain ⟨ab,aoff,rfl,hab,hcell⟩:=hA.room (by omega);have hc1:=(hcell _ hi).2;rw [← hr] at hc1
 have HK : Hid (∀ W,Below ((w.alloc (.cells #[.slice (some ⟨ab,aoff,none⟩) rs.length ca,.slice D ds.length cd,.string ⟨st.toArray⟩,.string ⟨gl.toArray⟩] 29)).alloc (.cells #[.string ⟨#[]⟩,.slice none 0 0] 35)).heap.size ((w.alloc (.cells #[.slice (some ⟨ab,aoff,none⟩) rs.length ca,.slice D ds.length cd,.string ⟨st.toArray⟩,.string ⟨gl.toArray⟩] 29)).alloc (.cells #[.string ⟨#[]⟩,.slice none 0 0] 35)) W → MapW W lo (some ⟨ab,aoff,none⟩) rs D ds ∧ Row W lo 1 r.B r.gives.length (strs r.gives)):=Lib.hid (fun W hW => by
  have hw : Below w.heap.size w W:=hb4.trans (hW.mono hb4.size)
  exact ⟨hA.below hw,((hA.below hw).gives _ hmem).1⟩)
 have HS : Hid (∀ W,Below ((w.alloc (.cells #[.slice (some ⟨ab,aoff,none⟩) rs.length ca,.slice D ds.length cd,.string ⟨st.toArray⟩,.string ⟨gl.toArray⟩] 29)).alloc (.cells #[.string ⟨#[]⟩,.slice none 0 0] 35)).heap.size ((w.alloc (.cells #[.slice (some ⟨ab,aoff,none⟩) rs.length ca,.slice D ds.length cd,.string ⟨st.toArray⟩,.string ⟨gl.toArray⟩] 29)).alloc (.cells #[.string ⟨#[]⟩,.slice none 0 0] 35)) W → (fun w' : World => w'.cell? ⟨w.heap.size,0,none⟩ = some (.slice (some ⟨ab,aoff,none⟩) rs.length ca) ∧ w'.cell? ⟨w.heap.size,1,none⟩ = some (.slice D ds.length cd) ∧ w'.cell? ⟨w.heap.size,2,none⟩ = some (.string ⟨st.toArray⟩) ∧ w'.cell? ⟨w.heap.size,3,none⟩ = some (.string ⟨gl.toArray⟩) ∧ w'.cell? ⟨ab,aoff + ixR rs st * 2 + 1,none⟩ = some (.slice r.B r.gives.length r.c)) W):=Lib.hid (fun W hW => by
  have hw : Below w.heap.size w W:=hb4.trans (hW.mono hb4.size);have hm:=hM.below hW
  exact ⟨hm.cell 0,hm.cell 1,hm.cell 2,hm.cell 3,(hw.cell (p:=⟨ab,aoff + ixR rs st * 2 + 1,none⟩) hab).trans hc1⟩)
 have HRS : Hid (∀ W,Below ((w.alloc (.cells #[.slice (some ⟨ab,aoff,none⟩) rs.length ca,.slice D ds.length cd,.string ⟨st.toArray⟩,.string ⟨gl.toArray⟩] 29)).alloc (.cells #[.string ⟨#[]⟩,.slice none 0 0] 35)).heap.size ((w.alloc (.cells #[.slice (some ⟨ab,aoff,none⟩) rs.length ca,.slice D ds.length cd,.string ⟨st.toArray⟩,.string ⟨gl.toArray⟩] 29)).alloc (.cells #[.string ⟨#[]⟩,.slice none 0 0] 35)) W → Blk W (w.heap.size + 1) 35 #[.string ⟨#[]⟩,.slice none 0 0]):=Lib.hid (fun W hW => hR.below hW);have hz4 : w.heap.size + 1 < ((w.alloc (.cells #[.slice (some ⟨ab,aoff,none⟩) rs.length ca,.slice D ds.length cd,.string ⟨st.toArray⟩,.string ⟨gl.toArray⟩] 29)).alloc (.cells #[.string ⟨#[]⟩,.slice none 0 0] 35)).heap.size:=hR.lt
 have hi0 : (0 : Int) ≤ (ixR rs st : Int):=by omega
 have hi1 : (ixR rs st : Int) < (rs.length : Int):=by omega
 have hbx : Below ((w.alloc (.cells #[.slice (some ⟨ab,aoff,none⟩) rs.length ca,.slice D ds.length cd,.string ⟨st.toArray⟩,.string ⟨gl.toArray⟩] 29)).alloc (.cells #[.string ⟨#[]⟩,.slice none 0 0] 35)).heap.size ((w.alloc (.cells #[.slice (some ⟨ab,aoff,none⟩) rs.length ca,.slice D ds.length cd,.string ⟨st.toArray⟩,.string ⟨gl.toArray⟩] 29)).alloc (.cells #[.string ⟨#[]⟩,.slice none 0 0] 35)) ((w.alloc (.cells #[.slice (some ⟨ab,aoff,none⟩) rs.length ca,.slice D ds.length cd,.string ⟨st.toArray⟩,.string ⟨gl.toArray⟩] 29)).alloc (.cells #[.string ⟨#[]⟩,.slice none 0 0] 35)).drew:=below_drewN' (Below.refl _ _) 1;have hsc:=HS.out _ hbx;clear hA hcell hM hR hc1 hmem hr hup hres
 go_enter Tryz.func64,Tryz.ntmps64
 go_upto_region 1 with (fail);generalize ((w.alloc (.cells #[.slice (some ⟨ab,aoff,none⟩) rs.length ca,.slice D ds.length cd,.string ⟨st.toArray⟩,.string ⟨gl.toArray⟩] 29)).alloc (.cells #[.string ⟨#[]⟩,.slice none 0 0] 35)) = w4 at *;refine wp_region_held_drew (S:=(fun w' => w'.cell? ⟨w.heap.size,0,none⟩ = some (.slice (some ⟨ab,aoff,none⟩) rs.length ca) ∧ w'.cell? ⟨w.heap.size,1,none⟩ = some (.slice D ds.length cd) ∧ w'.cell? ⟨w.heap.size,2,none⟩ = some (.string ⟨st.toArray⟩) ∧ w'.cell? ⟨w.heap.size,3,none⟩ = some (.string ⟨gl.toArray⟩) ∧ w'.cell? ⟨ab,aoff + ixR rs st * 2 + 1,none⟩ = some (.slice r.B r.gives.length r.c))) (by kernel_rfl) (hsc) (fun hHeld => ?_);(refine QU 0 ?_; (try simp only [Act.put,Q3,Q4,Q5]));(refine QU 1 ?_; (try simp only [Act.put,Q3,Q4,Q5]));(refine QU 2 ?_; (try simp only [Act.put,Q3,Q4,Q5]));(refine QU 3 ?_; (try simp only [Act.put,Q3,Q4,Q5]));(refine QU 4 ?_; (try simp only [Act.put,Q3,Q4,Q5]));(refine QU 5 ?_; (try simp only [Act.put,Q3,Q4,Q5]));(refine QU 6 ?_; (try simp only [Act.put,Q3,Q4,Q5]));refine QR 7 fun K hK => ?_;go_simp;go_at_call 22;have hra:=rRoomAt_any lo ca cd (some ⟨ab,aoff,none⟩) rs D ds st gl st _ (HK.out _ hbx).1;unfold mapV at hra;simp only [encStr] at hra;rw [show keyI (rs.map RoomE.key) st = (ixR rs st : Int) from HIX.out] at hra;refine hra.mono ?_;rintro e wa ⟨rfl,hb⟩;clear hra;replace hbx:=hbx.trans (hb.mono hbx.size);have hsc:=HS.out _ hbx;have hga:=(HK.out _ hbx).2;clear hb;go_wp2_with fail;refine hK.out _ _ (hsc) (fun hHeld => ?_);clear hK K;(try simp only [Act.put,Q3,Q4,Q5]);(refine QU 8 ?_; (try simp only [Act.put,Q3,Q4,Q5]));(refine QU 9 ?_; (try simp only [Act.put,Q3,Q4,Q5]));(refine QU 10 ?_; (try simp only [Act.put,Q3,Q4,Q5]));refine QR 11 fun K hK => ?_;go_simp;go_at_call 92;have hon:=onceR_any r.B r.c lo r.gives wa hga (by omega);rw [HTH.out] at hon;refine hon.mono ?_;rintro e w7 ⟨A7,c7,rfl,ho7,hb7⟩;clear hon hga;have HC7 : Hid (res.length ≤ c7):=Lib.hid (own_room ho7);have HO7 : Hid (Row w7 w4.heap.size 1 A7 res.length (strs res)):=Lib.hid (Row.of_own (own_down9 ho7 hbx.size));replace hbx:=hbx.trans (hb7.mono hbx.size);have hsc:=HS.out _ hbx;clear ho7 hb7;go_wp2_with fail;refine hK.out _ _ (hsc) (fun hHeld => ?_);clear hK K;(try simp only [Act.put,Q3,Q4,Q5]);(refine QU 12 ?_; (try simp only [Act.put,Q3,Q4,Q5]));refine QR 13 fun K hK => ?_;have hr7:=HRS.out w7 hbx;have z0 : w7.cell? ⟨w.heap.size + 1,0,none⟩ = some (.string ⟨#[]⟩):=hr7.cell 0;have z1 : w7.cell? ⟨w.heap.size + 1,1,none⟩ = some (.slice none 0 0):=hr7.cell 1;have f0:=hr7.thaw 0;have f1:=hr7.thaw 1;have hz7:=hbx.size;have hr8:=(hr7.poke 0 (.string ⟨st.toArray⟩)).poke 1 (.slice A7 res.length c7);have hb8 : Below w.heap.size w ((w7.setCell ⟨w.heap.size + 1,0,none⟩ (.string ⟨st.toArray⟩)).setCell ⟨w.heap.size + 1,1,none⟩ (.slice A7 res.length c7)):=Below.setCell (Below.setCell (hb4.trans (hbx.mono hb4.size)) (by simp) _) (by simp) _;have HR8 : Hid (Row ((w7.setCell ⟨w.heap.size + 1,0,none⟩ (.string ⟨st.toArray⟩)).setCell ⟨w.heap.size + 1,1,none⟩ (.slice A7 res.length c7)) w.heap.size 1 A7 res.length (strs res)):=Lib.hid (((HO7.out.set_low _ 0 _ hz4).set_low _ 1 _ hz4).weak hb4.size)
 have hs8 : (fun w' : World => w'.cell? ⟨w.heap.size,0,none⟩ = some (.slice (some ⟨ab,aoff,none⟩) rs.length ca) ∧ w'.cell? ⟨w.heap.size,1,none⟩ = some (.slice D ds.length cd) ∧ w'.cell? ⟨w.heap.size,2,none⟩ = some (.string ⟨st.toArray⟩) ∧ w'.cell? ⟨w.heap.size,3,none⟩ = some (.string ⟨gl.toArray⟩) ∧ w'.cell? ⟨ab,aoff + ixR rs st * 2 + 1,none⟩ = some (.slice r.B r.gives.length r.c)) ((w7.setCell ⟨w.heap.size + 1,0,none⟩ (.string ⟨st.toArray⟩)).setCell ⟨w.heap.size + 1,1,none⟩ (.slice A7 res.length c7)):=by
  obtain ⟨a1,a2,a3,a4,a6⟩:=hsc;exact ⟨cell_off (cell_off a1 (by simp)) (by simp),cell_off (cell_off a2 (by simp)) (by simp),cell_off (cell_off a3 (by simp)) (by simp),cell_off (cell_off a4 (by simp)) (by simp),cell_off (cell_off a6 (by simp; omega)) (by simp; omega)⟩
 go_simp;refine hK.out _ _ (hs8) (fun hHeld => ?_);clear hK K;(try simp only [Act.put,Q3,Q4,Q5]);refine wpAnyH_done (by kernel_rfl) ?_ _;go_wp2_with fail;refine bodyPost_ret (res_first _ _ (w.heap.size + 1) _ _ st A7 res.length c7 rfl rfl rfl (hr8.cell 0) (hr8.cell 1)) rfl ?_;exact ⟨A7,c7,rfl,HR8.out,HC7.out,hb8⟩
end Go.Proofs.YtjggbpchmbdocaaGreatDoor
/- The walk of the reference's WalkedOf. -/
namespace Go.Proofs.YtjggbpchmbdocaaGreatDoor
open Go.RowKit

theorem ThOk.len {T th : List (List UInt8)} (hT : T.Pairwise (· < ·)) (h : ThOk T th) : th.length ≤ T.length:=by
 rw [← list_bits hT h]; exact List.length_filter_le _ _
end Go.Proofs.YtjggbpchmbdocaaGreatDoor
/- The walks of the stream's TrickList and DoorList. -/
namespace Go.Proofs.YtjggbpchmbdocaaGreatDoor
open Go.RowKit Go.Sort

section
variable {w w' : World} {lo g : Nat} {A : Option Addr} {rs : List RoomE} {D : Option Addr} {ds : List DoorE}
theorem MapW.grown (h : MapW w lo A rs D ds) (hb : w.grownBy w' (some g)) (hg : g < lo) : MapW w' lo A rs D ds :=
 ⟨h.rooms.grown hb hg,h.doors.grown hb hg,fun r hr => ⟨(h.gives r hr).1.grown hb hg,(h.gives r hr).2⟩,fun d hd => ⟨(h.needs d hd).1.grown hb hg,(h.needs d hd).2⟩,fun d hd => ⟨(h.takes d hd).1.grown hb hg,(h.takes d hd).2⟩,h.s⟩
theorem Row.grownB {size n B : Nat} {xs : List Value} {row : Option Nat} (h : Row w lo size A n xs) (hA : ∀ a,A = some a → a.block < B) (hg : w.grownBy w' row) (hr : ∀ k,row = some k → B ≤ k) : Row w' lo size A n xs :=
 ⟨h.1,fun hn => by
  obtain ⟨b,off,e,h1,h2,h3⟩:=h.2 hn;have:=hA _ e
  exact ⟨b,off,e,h1,Nat.lt_of_lt_of_le h2 hg.size,fun j u hu => (World.cell?_of_block (w:=w) (hg.block b h2 (fun e2 => by have:=hr b e2.symm; simp at *; omega))).trans (h3 j u hu)⟩⟩
theorem own_keepB {base size n : Nat} {e : TypeId} {v : Value} {xs : List Value} {row : Option Nat} (h : w.ownsRow base e size v n xs) (hg : w.grownBy w' row) (hr : ∀ k j,row = some k → v.ownBlock = some j → j ≠ k) : w'.ownsRow base e size v n xs :=
 h.kept hg (by
  cases hv : v.ownBlock with
  | none => exact .inl rfl
  | some j => exact .inr fun e1 => hr j j e1.symm hv rfl)
end
def TlPost (w : World) (g N : Nat) (e : Ending) (w' : World) : Prop :=
 ∃ (A : Option Addr) (c : Nat) (l : List (List UInt8)),e = .returned (.slice A l.length c) ∧ w'.ownsRow w.heap.size 9 1 (.slice A l.length c) l.length (strs l) ∧ l.length ≤ 2000 ∧ Str w' g N ∧ w.grownBy w' (some g)
set_option maxHeartbeats 4000000 in
set_option maxRecDepth 100000 in
theorem trickList_any (g N lo ca cd : Nat) (A : Option Addr) (rs : List RoomE) (D : Option Addr) (ds : List DoorE) (st gl : List UInt8) (w : World) (hs : Str w g N) (hN : N < 4611686018427360000) (hA : MapW w lo A rs D ds) (hg : g < lo) :
  Calls Tryz.prog 46 #[.pointer (some ⟨g,0,none⟩),mapV A rs ca D ds cd st gl] w (TlPost w g (N + 1100)):=by
 have hlt:=hs.lt
 have hkl : (onceT (allK ds)).length ≤ 1000:=by have:=allK_le ds; have:=onceT_le (allK ds); have:=hA.s.dl; omega
 have hb0 : Below w.heap.size w (w.alloc (.cells #[.slice A rs.length ca,.slice D ds.length cd,.string ⟨st.toArray⟩,.string ⟨gl.toArray⟩] 29)):=(Below.refl _ w).alloc (Nat.le_refl _) _;have hA0:=hA.alloc (.cells #[.slice A rs.length ca,.slice D ds.length cd,.string ⟨st.toArray⟩,.string ⟨gl.toArray⟩] 29);have hs0:=hs.alloc (.cells #[.slice A rs.length ca,.slice D ds.length cd,.string ⟨st.toArray⟩,.string ⟨gl.toArray⟩] 29);have hgr0 : w.grownBy (w.alloc (.cells #[.slice A rs.length ca,.slice D ds.length cd,.string ⟨st.toArray⟩,.string ⟨gl.toArray⟩] 29)) (some g):=World.grownBy_alloc _ _ _;clear hA;unfold mapV;simp only [encStr]
 go_enter Tryz.func46,Tryz.ntmps46
 go_wp2_with fail;generalize w.alloc (.cells #[.slice A rs.length ca,.slice D ds.length cd,.string ⟨st.toArray⟩,.string ⟨gl.toArray⟩] 29) = w0 at *;have hrt:=rTricks_any lo ca cd A rs D ds st gl w0 hA0;unfold mapV at hrt;simp only [encStr] at hrt;refine hrt.mono ?_;rintro e w1 ⟨A2,k2,rfl,ho2,hb2⟩;clear hrt hA0;generalize onceT (allK ds) = K at *;have hrow2:=Row.of_own ho2;have HA2 : Hid (∀ a,A2 = some a → a.block < w1.heap.size):=Lib.hid (fun a ha => by subst ha; exact (ho2.lt a.block rfl).2);have hs1:=hs0.keep hb2;have hgr1:=grown_trans' hgr0 (grown_of_below hb2 (some g));have hz1 : w.heap.size ≤ w1.heap.size:=hgr1.size;have hz0 : g < w0.heap.size:=hs0.lt;have hg1 : g < w1.heap.size:=hs1.lt;clear hs0 hgr0 hb0 hb2 ho2;go_wp2_with fail
 go_loopw [5,11] (fun v i wr => ∃ (k : Nat) (A : Option Addr) (c : Nat) (l : List (List UInt8)),k ≤ K.length ∧ i = .int .i64 k ∧ v = .slice A l.length c ∧ wr.ownsRow w1.heap.size 9 1 (.slice A l.length c) l.length (strs l) ∧ l.length ≤ k ∧ Str wr g (N + k) ∧ w.grownBy wr (some g) ∧ Row wr w0.heap.size 1 A2 K.length (strs K) ∧ w1.heap.size ≤ wr.heap.size) (fun _ i _ => K.length - (intOf i).toNat)
 case atStart => exact ⟨0,none,0,[],by omega,rfl,rfl,World.ownsRow_nil _ _ _ _,by simp,hs1,hgr1,hrow2,Nat.le_refl _⟩
 case round =>
  clear hrow2 hs1 hgr1;obtain ⟨k,A5,c5,l,hk,rfl,rfl,hown,hlk,hsr,hgr,hrow,hzw⟩:=hrel;have hzr:=hgr.size
  by_cases hkn : k < K.length
  ·obtain ⟨b,off,rfl,hbs,hcell⟩:=strs_at hrow hkn
   have y0:=hcell k hkn;clear hcell;generalize K[k] = x at *;simp only [encStr] at y0;go_wp2_with fail;refine (flip_any g _ 3 _ hsr (by omega) (by omega)).mono ?_;rintro e w2 ⟨r2,rfl,hs2,hg2⟩;have hgr2:=grown_trans' hgr hg2;have hown2:=own_grown hown hg2 (by omega);have hrow2:=hrow.grown hg2 hz0;have hzw2 : w1.heap.size ≤ w2.heap.size:=Nat.le_trans hzw hg2.size;clear y0 hown hrow hg2 hgr
   cases r2
   ·go_wp2_with (at_builtin; go_must (refine wpList_app (lo:=w1.heap.size) (base:=w1.heap.size) (n:=l.length) (xs:=strs l) _ _ rfl _ _ ty_strs rfl (by repeat (first | exact hown2 | refine World.ownsRow.alloc ?_ _ | refine own_drewN ?_ _ | refine World.ownsRow.drew ?_)) rfl (by first | exact row_new' _ (by first | rfl | simp) (by first | omega | (simp; omega)) rfl | exact row_newN _ _ (by first | rfl | simp) (by first | omega | (simp; omega)) rfl | exact row_newD _ (by first | rfl | simp) (by first | omega | (simp; omega)) rfl) rfl rfl (by first | omega | decide) (by first | omega | decide) (by first | omega | (simp; omega)) ?_))
    intro A6 c6 w5 hown5 hg5 _;have HO5 : Hid (w5.ownsRow w1.heap.size 9 1 (.slice A6 (l ++ [x]).length c6) (l ++ [x]).length (strs (l ++ [x]))):=Lib.hid (by simpa [strs,encStr] using hown5);have hs5:=(hs2.alloc (.cells #[.string ⟨x.toArray⟩] 9)).app (hown2.alloc _) hg5 (by omega);have hgr5:=grown_app (grown_alloc hgr2 (.cells #[.string ⟨x.toArray⟩] 9)) (hown2.alloc _) hg5 (by omega);have hrow5:=(hrow2.alloc (.cells #[.string ⟨x.toArray⟩] 9)).grownB HA2.out hg5 (fun q hq => ((hown2.alloc (.cells #[.string ⟨x.toArray⟩] 9)).lt q hq).1)
    have hzw5 : w1.heap.size ≤ w5.heap.size:=by have:=hg5.size; simp at this; omega
    clear hown2 hown5 hg5 hrow2;go_wp2_with fail;go_roundw
    case rel => exact ⟨k + 1,A6,c6,l ++ [x],by omega,by go_num,by simp,HO5.out,by simp; omega,hs5.more (by omega),hgr5,hrow5,hzw5⟩
    case measure => simp [intOf]; omega
   ·go_wp2_with fail
    go_roundw
    case rel => exact ⟨k + 1,A5,c5,l,by omega,by go_num,rfl,hown2,by omega,hs2,hgr2,hrow2,hzw2⟩
    case measure => simp [intOf]; omega
  ·clear hrow
   have hown:=own_weak hown hz1;go_wp2_with fail;refine (flip_any g _ 20 _ hsr (by omega) (by omega)).mono ?_;rintro e w2 ⟨r2,rfl,hs2,hg2⟩;have hgr2:=grown_trans' hgr hg2;have hown2:=own_grown hown hg2 (by omega);have hgw2 : g < w2.heap.size:=hs2.lt;clear hown hg2 hgr
   cases r2
   ·have HO:=Lib.hid hown2
    clear hown2;go_wp2_with fail;go_ret;exact ⟨A5,c5,l,rfl,HO.out,by omega,hs2.more (by omega),hgr2⟩
   ·go_wp2_with fail
    refine (some_lit g _ w2.heap.size 100 #[.string ⟨#[99,108,105,112]⟩,.string ⟨#[122,122]⟩,.string ⟨#[97,98]⟩] [[99,108,105,112],[122,122],[97,98]] _ (hs2.alloc _) (by omega) (Blk.new _ _ _) rfl hgw2 (by simp) (by simp) (by decide)).mono ?_;rintro e w3 ⟨x,rfl,hx,hs3,hg3⟩;have hgr3:=grown_trans' (grown_alloc hgr2 _) hg3;have hown3:=own_grown (hown2.alloc (.cells #[.string ⟨#[99,108,105,112]⟩,.string ⟨#[122,122]⟩,.string ⟨#[97,98]⟩] 9)) hg3 (by omega);have hzz3:=hgr3.size;clear hown2 hg3 hgr2
    go_wp2_with (at_builtin; go_must (refine wpList_app (lo:=w.heap.size) (base:=w.heap.size) (n:=l.length) (xs:=strs l) _ _ rfl _ _ ty_strs rfl (by repeat (first | exact hown3 | refine World.ownsRow.alloc ?_ _ | refine own_drewN ?_ _ | refine World.ownsRow.drew ?_)) rfl (by first | exact row_new' _ (by first | rfl | simp) (by first | omega | (simp; omega)) rfl | exact row_newN _ _ (by first | rfl | simp) (by first | omega | (simp; omega)) rfl | exact row_newD _ (by first | rfl | simp) (by first | omega | (simp; omega)) rfl) rfl rfl (by first | omega | decide) (by first | omega | decide) (by first | omega | (simp; omega)) ?_))
    intro A6 c6 w5 hown5 hg5 _;have HO5 : Hid (w5.ownsRow w.heap.size 9 1 (.slice A6 (l ++ [x]).length c6) (l ++ [x]).length (strs (l ++ [x]))):=Lib.hid (by simpa [strs,encStr] using hown5);have HS5:=Lib.hid (((hs3.alloc (.cells #[.string ⟨x.toArray⟩] 9)).app (hown3.alloc _) hg5 (by omega)).more (show _ ≤ N + 1100 by omega));have HG5:=Lib.hid (grown_app (grown_alloc hgr3 (.cells #[.string ⟨x.toArray⟩] 9)) (hown3.alloc _) hg5 (by omega));clear hown3 hown5 hg5 hs3 hgr3;go_wp2_with fail;go_ret;exact ⟨A6,c6,l ++ [x],by simp,HO5.out,by simp; omega,HS5.out,HG5.out⟩

end Go.Proofs.YtjggbpchmbdocaaGreatDoor
