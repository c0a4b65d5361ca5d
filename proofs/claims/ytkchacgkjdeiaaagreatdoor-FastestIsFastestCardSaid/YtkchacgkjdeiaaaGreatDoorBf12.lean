/- Texts of this seat, laid together: GmT GmB GmE GmF GmG GmH GmV. -/
import Derived.Deep.CutBlock
import Derived.Deep.DeepCutAuto
import Derived.Test.YtkchacgkjdeiaaaGreatDoorBf11
import Derived.Test.YtkchacgkjdeiaaaGreatDoorBf02
import Derived.Test.YtkchacgkjdeiaaaGreatDoorBf07
import Derived.Test.YtkchacgkjdeiaaaGreatDoorBf08
import Derived.Test.YtkchacgkjdeiaaaGreatDoorBf04
/- The walk of step. -/
set_option linter.unusedVariables false
set_option linter.unusedSimpArgs false
namespace Go.Proofs.YtkchacgkjdeiaaaGreatDoor
open Go.RowKit Go.Maps

structure MidG (w wx : World) (t : GS) : Prop where
  B : Blk wx w.heap.size 74 #[.int .i64 t.x, .int .i64 t.y, .int .i64 t.rise, .bool t.held, .int .i64 t.mask, .int .i64 t.fin]
  R : Blk wx (w.heap.size + 1) 74 #[.int .i64 0, .int .i64 0, .int .i64 0, .bool false, .int .i64 0, .int .i64 0]
  b : Below w.heap.size w wx
section
variable {w wx : World} {t : GS}
theorem MidG.drew (h : MidG w wx t) : MidG w wx.drew t:=⟨h.B.drew,h.R.drew,h.b.drew⟩
theorem MidG.cells (h : MidG w wx t) : wx.cell? ⟨w.heap.size,0,none⟩ = some (.int .i64 t.x) ∧ wx.cell? ⟨w.heap.size,1,none⟩ = some (.int .i64 t.y) ∧ wx.cell? ⟨w.heap.size,2,none⟩ = some (.int .i64 t.rise) ∧ wx.cell? ⟨w.heap.size,3,none⟩ = some (.bool t.held) ∧ wx.cell? ⟨w.heap.size,4,none⟩ = some (.int .i64 t.mask) ∧ wx.cell? ⟨w.heap.size,5,none⟩ = some (.int .i64 t.fin):=⟨h.B.cell 0,h.B.cell 1,h.B.cell 2,h.B.cell 3,h.B.cell 4,h.B.cell 5⟩
theorem MidG.set (h : MidG w wx t) (i : Nat) (u : Value) (t' : GS) (e : (#[.int .i64 t.x,.int .i64 t.y,.int .i64 t.rise,.bool t.held,.int .i64 t.mask,.int .i64 t.fin] : Array Value).setIfInBounds i u = #[.int .i64 t'.x,.int .i64 t'.y,.int .i64 t'.rise,.bool t'.held,.int .i64 t'.mask,.int .i64 t'.fin]) : MidG w (wx.setCell ⟨w.heap.size,i,none⟩ u) t' :=
 ⟨e ▸ h.B.poke i u,h.R.past _ _ _ (by omega),h.b.setCell (Nat.le_refl _) u⟩
end
theorem wpList_storeRow {ops : Array Oper} {rest : List Oper} {o : Oper} {a : Act} {Q : Exit → Act → World → Prop} {w : World} (hg : o.guard = none) (ty : TypeId) (x y : Operand) (ho : o.op = .store ty x y) (g : Nat) (cells : Array Value) (hx : a.eval x = .pointer (some ⟨g,0,none⟩)) (hy : a.eval y = .agg cells) (t : TypeId) (old : Array Value) (hB : Blk w g t old)
  (hi : (Tryz.prog.info? ty).map (·.size) = some cells.size) (hold : old.size = cells.size) (h1 : cells.all (·.oneCell') = true) (h : ∀ w',Blk w' g t cells → w.grownBy w' (some g) → wpList Tryz.prog ops Q rest (a.put o.dst undef) w') : wpList Tryz.prog ops Q (o :: rest) a w:=by
 have hB' : w.heap[g]? = some (.cells old t (0,0)):=hB
 refine wpList_plain hg fun _ hK => wp_store_row ty x y ho g cells hx hy t old hB hi hold h1 (hK _ _ (h _ ?_ ?_))
 ·unfold Blk
  simp [World.setRow,Array.getElem?_modify,hB']
 ·refine ⟨rfl,rfl,rfl,by simp [World.setRow],fun i _ hi => ?_⟩
  have hi' : g ≠ i:=fun e => hi (by rw [e])
  simp [World.setRow,Array.getElem?_modify,hi']
theorem one6 (x y r m f : Int) (hd : Bool) : (#[.int .i64 x,.int .i64 y,.int .i64 r,.bool hd,.int .i64 m,.int .i64 f] : Array Value).all (·.oneCell') = true:=by simp [Value.oneCell']
theorem and3 (h : Int) (h0 : 0 ≤ h) (h1 : h < 64) : bits BinOp.and IntKind.i64 h 3 = h % 4:=by
 have : ∀ k : Fin 64,bits BinOp.and IntKind.i64 (k.val : Int) 3 = (k.val : Int) % 4:=by decide
 obtain ⟨n,rfl⟩:=Int.eq_ofNat_of_zero_le h0;exact this ⟨n,by omega⟩
theorem and16 (h : Int) (h0 : 0 ≤ h) (h1 : h < 64) : (bits BinOp.and IntKind.i64 h 16 != 0) = jpF h:=by
 have : ∀ k : Fin 64,(bits BinOp.and IntKind.i64 (k.val : Int) 16 != 0) = jpF (k.val : Int):=by decide
 obtain ⟨n,rfl⟩:=Int.eq_ofNat_of_zero_le h0;exact this ⟨n,by omega⟩
theorem or_bits (m k : Nat) (hm : m < 1024) (hk : k < 10) : bits BinOp.or IntKind.i64 (m : Int) ((2 ^ k : Nat) : Int) = ((m ||| 2 ^ k : Nat) : Int):=by
 have : ∀ k : Fin 10,∀ m : Fin 1024,bits BinOp.or IntKind.i64 (m.val : Int) ((2 ^ k.val : Nat) : Int) = ((m.val ||| 2 ^ k.val : Nat) : Int):=by decide +kernel
 exact this ⟨k,hk⟩ ⟨m,hm⟩
theorem or_bits0 (m : Nat) (hm : m < 1024) : bits BinOp.or IntKind.i64 (m : Int) 0 = (m : Int):=by
 have : ∀ m : Fin 1024,bits BinOp.or IntKind.i64 (m.val : Int) 0 = (m.val : Int):=by decide +kernel
 exact this ⟨m,hm⟩
theorem coin_look {rows : List (List UInt8)} {W : Nat} (x y : Int) : (∃ c',coinF rows W 0 rows.length x y = some (.int .i64 c') ∧ ((bitF rows W x y : Nat) : Int) = c') ∨ coinF rows W 0 rows.length x y = none ∧ ((bitF rows W x y : Nat) : Int) = 0:=by
 unfold coinF
 by_cases hc : cellF rows W x y = 111
 ·left
  rcases cellF_where (rows:=rows) (W:=W) (x:=x) (y:=y) (by rw [hc]; decide) with h1 | h1
  ·rw [cellF_low h1] at hc; cases hc
  ·exact ⟨_,if_pos ⟨by omega,hc⟩,rfl⟩
 ·right
  refine ⟨if_neg (fun h => hc h.2),?_⟩;unfold bitF; rw [if_neg hc]; rfl
theorem or_bit {rows : List (List UInt8)} {W : Nat} (hL : Lv rows W) (m : Nat) (hm : m < 1024) (x y : Int) : bits BinOp.or IntKind.i64 (m : Int) ((bitF rows W x y : Nat) : Int) = ((m ||| bitF rows W x y : Nat) : Int):=by
 rcases hL.bit x y with ⟨h,_⟩ | ⟨k,hk,h,_⟩
 ·rw [h]; simp only [Nat.or_zero]; exact or_bits0 m hm
 ·rw [h]; exact or_bits m k hm hk
theorem mv_bound (h : Int) {x : Int} (h0 : 0 ≤ x) (h1 : x ≤ 61) : -2 ≤ mvF h x ∧ mvF h x ≤ 62:=by
 unfold mvF
 split
 ·omega
 ·split <;> omega
theorem res_step (tmps : Array Value) (w : World) (g : Nat) (x y r m f : Int) (hd : Bool) (hx : tmps.getD 6 undef = .pointer (some ⟨g,0,none⟩)) (f0 : w.cell? ⟨g,0,none⟩ = some (.int .i64 x)) (f1 : w.cell? ⟨g,1,none⟩ = some (.int .i64 y)) (f2 : w.cell? ⟨g,2,none⟩ = some (.int .i64 r)) (f3 : w.cell? ⟨g,3,none⟩ = some (.bool hd)) (f4 : w.cell? ⟨g,4,none⟩ = some (.int .i64 m)) (f5 : w.cell? ⟨g,5,none⟩ = some (.int .i64 f)) :
  (results Tryz.f81 tmps).run Tryz.prog w = .ok (.agg #[.int .i64 x,.int .i64 y,.int .i64 r,.bool hd,.int .i64 m,.int .i64 f]) w:=by
 have e : Tryz.f81.results = #[.cell 6 74]:=by kernel_rfl
 have hx' : tmps[6]?.getD undef = .pointer (some ⟨g,0,none⟩):=by simpa using hx
 simp [results,e,hx',go_sem,f0,f1,f2,f3,f4,f5]
def gsV (s : GS) : Value:=.agg #[.int .i64 s.x,.int .i64 s.y,.int .i64 s.rise,.bool s.held,.int .i64 s.mask,.int .i64 s.fin]
set_option maxHeartbeats 2000000 in
set_option maxRecDepth 100000 in
theorem step_any (p lo : Nat) (A : Option Addr) (c : Nat) (rows : List (List UInt8)) (W : Nat) (sx sy : Int) (mb : Nat) (w : World) (hr : Row w lo 1 A rows.length (strs rows)) (hL : Lv rows W) (hg : GmI w p A c rows W sx sy mb) (s : GS) (hs : GOk rows W s) (hf : s.fin = 0) (h : Int) (h0 : 0 ≤ h) (h1 : h < 64) :
  Calls Tryz.prog 81 #[.pointer (some ⟨p,0,none⟩),gsV s,.int .i64 h] w fun e w' => e = .returned (gsV (stepF rows W h s)) ∧ Below w.heap.size w w':=by
 have hM0 : MidG w ((w.alloc (.cells #[.int .i64 s.x,.int .i64 s.y,.int .i64 s.rise,.bool s.held,.int .i64 s.mask,.int .i64 s.fin] 74)).alloc (.cells #[.int .i64 0,.int .i64 0,.int .i64 0,.bool false,.int .i64 0,.int .i64 0] 74)) s:=by
  refine ⟨(Blk.new _ _ _).alloc _,?_,((Below.refl _ w).alloc (Nat.le_refl _) _).alloc (by simp) _⟩;have h:=Blk.new (w.alloc (.cells #[.int .i64 s.x,.int .i64 s.y,.int .i64 s.rise,.bool s.held,.int .i64 s.mask,.int .i64 s.fin] 74)) 74 #[.int .i64 0,.int .i64 0,.int .i64 0,.bool false,.int .i64 0,.int .i64 0];rw [show (w.alloc (.cells #[.int .i64 s.x,.int .i64 s.y,.int .i64 s.rise,.bool s.held,.int .i64 s.mask,.int .i64 s.fin] 74)).heap.size = w.heap.size + 1 by simp] at h;exact h
 have HG:=Lib.hid hg;have HR:=Lib.hid hr;have HL:=Lib.hid hL;have hx0:=hs.x0;have hxW:=hs.xW;have hy0:=hs.y0;have hyl:=hs.yl hf;have h60:=hL.le;have hW60:=hL.W60;have hr0:=hs.r0;have hr3:=hs.r3;have HSO:=Lib.hid hs;have b3:=and3 h h0 h1;have b16:=and16 h h0 h1
 have d0 : (s.fin != 0) = false:=by rw [hf]; rfl
 have HSF:=Lib.hid hf;clear hg hr hL hs hf;unfold gsV
 go_enter Tryz.func81,Tryz.ntmps81
 have hmv : -2 ≤ mvF h s.x ∧ mvF h s.x ≤ 62:=mv_bound h (by omega) (by omega);go_upto_block 0 with (fail)
 go_cut [7] (fun v wx => v = .int .i64 (mvF h s.x) ∧ MidG w wx s)
 case first =>
  have w1 : IntKind.i64.wrap (s.x - 1) = s.x - 1:=IntWalk.i64_in _ ⟨by omega,by omega⟩;have w2 : IntKind.i64.wrap (s.x + 1) = s.x + 1:=IntWalk.i64_in _ ⟨by omega,by omega⟩
  by_cases q1 : h % 4 = 1
  ·have e1 : (h % 4 == 1) = true:=by simp [q1]
   have HV : Hid (mvF h s.x = s.x - 1):=Lib.hid (by unfold mvF; rw [if_pos q1]);clear q1 hmv;go_wp2_with fail;go_meet;exact ⟨by rw [HV.out],hM0⟩
  have e1 : (h % 4 == 1) = false:=by simp [q1]
  by_cases q2 : h % 4 = 2
  ·have e2 : (h % 4 == 2) = true:=by simp [q2]
   have HV : Hid (mvF h s.x = s.x + 1):=Lib.hid (by unfold mvF; rw [if_neg q1,if_pos q2]);clear q1 q2 hmv;go_wp2_with fail;go_meet;exact ⟨by rw [HV.out],hM0⟩
  ·have e2 : (h % 4 == 2) = false:=by simp [q2]
   have HV : Hid (mvF h s.x = s.x):=Lib.hid (by unfold mvF; rw [if_neg q1,if_neg q2]);clear q1 q2 hmv;go_wp2_with fail;go_meet;exact ⟨by rw [HV.out],hM0⟩
 case rest =>
 obtain ⟨rfl,hM1⟩:=hcut;clear hM0;obtain ⟨y0,y1,-,-,-,-⟩:=hM1.cells;go_wp2_with fail;go_at_call 111;refine (cellI_any p lo A c rows W _ ((HG.out.below hM1.b).blk.cell 0) (HR.out.below hM1.b) HL.out _ _ (i64_smG (by omega) (by omega)) (i64_smG (by omega) (by omega))).mono ?_;rintro e w1 ⟨rfl,rfl⟩
 go_upto_if 33 with (fail)
 go_cut [] (fun wx => MidG w wx (sideF rows W h s))
 case first =>
  have z0:=hM1.B.thaw 0
  by_cases q1 : cellF rows W (mvF h s.x) s.y = 35
  ·have e1 : (cellF rows W (mvF h s.x) s.y != 35) = false:=by rw [q1]; rfl
   have HS2 : Hid (sideF rows W h s = s):=Lib.hid (by unfold sideF; rw [if_pos q1]);clear q1;go_wp2_with fail;go_meet;rw [HS2.out]; exact hM1
  ·have e1 : (cellF rows W (mvF h s.x) s.y != 35) = true:=bne_iff_ne.2 q1
   have HS2 : Hid (sideF rows W h s = { s with x:=mvF h s.x }):=Lib.hid (by unfold sideF; rw [if_neg q1]);clear q1;go_wp2_with fail;go_meet;rw [HS2.out];exact hM1.set 0 _ _ rfl
 case rest =>
 have hM2:=hcut;clear hcut hM1 y0 y1 hmv;have HO2:=Lib.hid (HSO.out.side (h:=h) HSF.out);have HF2 : Hid ((sideF rows W h s).fin = 0):=Lib.hid (side_fin.trans HSF.out);have HST : Hid (stepF rows W h s = endF rows W (vertF rows W (jumpF rows W h (sideF rows W h s)))):=Lib.hid rfl;generalize sideF rows W h s = t at *;have tx0:=HO2.out.x0;have txW:=HO2.out.xW;have ty0:=HO2.out.y0;have tyl:=HO2.out.yl HF2.out;have tr0:=HO2.out.r0;have tr3:=HO2.out.r3;obtain ⟨y0,y1,y2,y3,-,-⟩:=hM2.cells;have w1 : IntKind.i64.wrap (t.y + 1) = t.y + 1:=IntWalk.i64_in _ ⟨by omega,by omega⟩;go_wp2_with fail;go_at_call 111;refine (cellI_any p lo A c rows W _ ((HG.out.below hM2.b).blk.cell 0) (HR.out.below hM2.b) HL.out _ _ (i64_smG (by omega) (by omega)) (i64_smG (by omega) (by omega))).mono ?_;rintro e w2 ⟨rfl,rfl⟩
 obtain ⟨gd,hgd⟩ : ∃ gd,gd = grF rows W t.x t.y:=⟨_,rfl⟩
 have hgr : (cellF rows W t.x (t.y + 1) == 35) = gd:=by rw [hgd]; unfold grF; rfl
 obtain ⟨jb,hjb⟩ : ∃ jb,jb = jpF h:=⟨_,rfl⟩
 rw [← hjb] at b16;have HGD:=Lib.hid hgd;have HJB:=Lib.hid hjb;clear hgd hjb;go_upto_region 13 with (fail)
 go_cut [58] (fun v wx => v = .bool (jb && !t.held && gd) ∧ MidG w wx t)
 case first =>
  cases jb with
  | false =>
   go_wp2_with fail;go_meet;exact ⟨rfl,hM2⟩
  | true =>
   cases hh : t.held with
   | false =>
    rw [hh] at y3;go_wp2_with fail;go_meet;exact ⟨by rw [hh]; simp,hM2⟩
   | true =>
    rw [hh] at y3;go_wp2_with fail;go_meet;exact ⟨by rw [hh]; simp,hM2⟩
 case rest =>
 obtain ⟨rfl,hM3⟩:=hcut;clear hM2 y0 y1 y2 y3
 obtain ⟨g3,hg3⟩ : ∃ g3,g3 = (jb && !t.held && gd):=⟨_,rfl⟩
 rw [← hg3];have HG3:=Lib.hid hg3;clear hg3
 go_upto_if 58 with (fail)
 go_cut [] (fun wx => MidG w wx { t with rise:=if g3 then 3 else t.rise })
 case first =>
  obtain ⟨-,-,y2,-,-,-⟩:=hM3.cells;have z2:=hM3.B.thaw 2
  cases g3 with
  | false =>
   go_wp2_with fail;go_meet;exact hM3
  | true =>
   go_wp2_with fail;go_meet;exact hM3.set 2 _ _ rfl
 case rest =>
 have hM4:=hcut;clear hcut hM3
 obtain ⟨t3,ht3⟩ : ∃ t3 : GS,t3 = { t with rise:=if g3 then 3 else t.rise }:=⟨_,rfl⟩
 rw [← ht3] at hM4;have HJU : Hid (jumpF rows W h t = { t3 with held:=jb }):=Lib.hid (by rw [ht3]; unfold jumpF; rw [← HJB.out,← HGD.out,← HG3.out]);clear ht3;go_upto_region 15 with (fail)
 go_cut [] (fun wx => MidG w wx (jumpF rows W h t))
 case first =>
  obtain ⟨-,-,-,y3,-,-⟩:=hM4.cells;have z3:=hM4.B.thaw 3;go_wp2_with fail;go_meet;rw [HJU.out];exact hM4.set 3 _ _ rfl
 case rest =>
 have hM5:=hcut;have HO5:=Lib.hid (HO2.out.jump (h:=h));have HGD5 : Hid (gd = grF rows W (jumpF rows W h t).x (jumpF rows W h t).y):=Lib.hid HGD.out;have HF5 : Hid ((jumpF rows W h t).fin = 0):=Lib.hid HF2.out;clear hcut hM4 HJU HG3 HGD HJB HF2 HO2 tx0 txW ty0 tyl tr0 tr3 w1 hgr b16;generalize jumpF rows W h t = s5 at *;clear t3;have HV5:=Lib.hid (HO5.out.vert HF5.out);have tx0:=HO5.out.x0;have txW:=HO5.out.xW;have ty0:=HO5.out.y0;have tyl:=HO5.out.yl HF5.out;have tr0:=HO5.out.r0;have tr3:=HO5.out.r3;go_upto_block 1 with (fail)
 go_cut [] (fun wx => MidG w wx (vertF rows W s5))
 case first =>
  obtain ⟨y0,y1,y2,-,-,-⟩:=hM5.cells;have z1:=hM5.B.thaw 1;have z2:=hM5.B.thaw 2;have w1 : IntKind.i64.wrap (s5.y - 1) = s5.y - 1:=IntWalk.i64_in _ ⟨by omega,by omega⟩;have w2 : IntKind.i64.wrap (s5.y + 1) = s5.y + 1:=IntWalk.i64_in _ ⟨by omega,by omega⟩;have w3 : IntKind.i64.wrap (s5.rise - 1) = s5.rise - 1:=IntWalk.i64_in _ ⟨by omega,by omega⟩
  by_cases q1 : 0 < s5.rise
  ·have e1 : decide ((0 : Int) < s5.rise) = true:=decide_eq_true q1
   go_wp2_with fail;go_at_call 111;refine (cellI_any p lo A c rows W _ ((HG.out.below hM5.b).blk.cell 0) (HR.out.below hM5.b) HL.out _ _ (i64_smG (by omega) (by omega)) (i64_smG (by omega) (by omega))).mono ?_;rintro e w9 ⟨rfl,rfl⟩
   by_cases q2 : cellF rows W s5.x (s5.y - 1) = 35
   ·have e2 : (cellF rows W s5.x (s5.y - 1) == 35) = true:=by rw [q2]; rfl
    have HV : Hid (vertF rows W s5 = { s5 with rise:=0 }):=Lib.hid (by unfold vertF; rw [if_pos q1,if_pos q2]);clear q2 HV5;go_wp2_with fail;go_meet;rw [HV.out]; exact hM5.set 2 _ _ rfl
   ·have e2 : (cellF rows W s5.x (s5.y - 1) == 35) = false:=beq_eq_false_iff_ne.2 q2
    have HV : Hid (vertF rows W s5 = { s5 with y:=s5.y - 1,rise:=s5.rise - 1 }):=Lib.hid (by unfold vertF; rw [if_pos q1,if_neg q2]);have hMy:=hM5.set 1 (.int .i64 (s5.y - 1)) { s5 with y:=s5.y - 1 } rfl;obtain ⟨-,-,v2,-,-,-⟩:=hMy.cells;have v3:=hMy.B.thaw 2;clear q2 HV5;go_wp2_with fail;go_meet;rw [HV.out]; exact hMy.set 2 _ _ rfl
  ·have e1 : decide ((0 : Int) < s5.rise) = false:=decide_eq_false q1
   cases gd with
   | true =>
    have HV : Hid (vertF rows W s5 = s5):=Lib.hid (by unfold vertF; rw [if_neg q1,if_pos HGD5.out.symm]);clear HV5;go_wp2_with fail;go_meet;rw [HV.out]; exact hM5
   | false =>
    have HV : Hid (vertF rows W s5 = { s5 with y:=s5.y + 1 }):=Lib.hid (by unfold vertF; rw [if_neg q1,if_neg (by rw [← HGD5.out]; decide)]);clear HV5;go_wp2_with fail;go_meet;rw [HV.out]; exact hM5.set 1 _ _ rfl
 case rest =>
 have hM6:=hcut;have HM6 : Hid ((vertF rows W s5).mask < 1024):=Lib.hid (by rw [vert_mask]; exact HO5.out.m);clear hcut hM5 tx0 txW ty0 tyl tr0 tr3 HO5 HF5 HGD5;generalize vertF rows W s5 = s6 at *;obtain ⟨tx0,txW,ty0,tyl,tr0,tr3⟩:=HV5.out;clear HV5;have kx : I64 s6.x:=i64_smG (by omega) (by omega);have ky : I64 s6.y:=i64_smG (by omega) (by omega);go_upto_region 23 with (fail)
 go_cut [] (fun wx => MidG w wx { s6 with mask:=s6.mask ||| bitF rows W s6.x s6.y })
 case first =>
  obtain ⟨y0,y1,-,-,y4,-⟩:=hM6.cells;have z4:=hM6.B.thaw 4;have yp:=(HG.out.below hM6.b).blk.cell 3;simp only [Q0,Q2,Q1] at yp;have hlook:=(HG.out.below hM6.b).map.drew.lookRun s6.x s6.y _ kx ky (coin_look s6.x s6.y);have hor:=or_bit HL.out s6.mask HM6.out s6.x s6.y;generalize bitF rows W s6.x s6.y = bt at *;go_wp2_with fail
  go_still_tail 11,(by kernel_rfl)
  clear hlook;go_wp2_with fail;go_meet;exact hM6.drew.set 4 _ _ rfl
 case rest =>
 have hM7:=hcut;clear hcut hM6;have HEN : Hid (endF rows W s6 = { s6 with mask:=s6.mask ||| bitF rows W s6.x s6.y,fin:=if cellF rows W s6.x s6.y = 94 then 2 else if cellF rows W s6.x s6.y = 120 then 1 else s6.fin }):=Lib.hid rfl;generalize s6.mask ||| bitF rows W s6.x s6.y = m7 at *;obtain ⟨y0,y1,-,-,-,-⟩:=hM7.cells;go_wp2_with fail;go_at_call 111;refine (cellI_any p lo A c rows W _ ((HG.out.below hM7.b).blk.cell 0) (HR.out.below hM7.b) HL.out _ _ kx ky).mono ?_;rintro e w9 ⟨rfl,rfl⟩;go_upto_block 2 with (fail)
 go_cut [] (fun wx => MidG w wx (endF rows W s6))
 case first =>
  have z5:=hM7.B.thaw 5;obtain ⟨-,-,-,-,-,y5⟩:=hM7.cells
  by_cases q1 : cellF rows W s6.x s6.y = 94
  ·have e1 : (cellF rows W s6.x s6.y == 94) = true:=by rw [q1]; rfl
   have HV : Hid (endF rows W s6 = { s6 with mask:=m7,fin:=2 }):=Lib.hid (by rw [HEN.out,if_pos q1]);clear q1;go_wp2_with fail;go_meet;rw [HV.out]; exact hM7.set 5 _ _ rfl
  have e1 : (cellF rows W s6.x s6.y == 94) = false:=beq_eq_false_iff_ne.2 q1
  by_cases q2 : cellF rows W s6.x s6.y = 120
  ·have e2 : (cellF rows W s6.x s6.y == 120) = true:=by rw [q2]; rfl
   have HV : Hid (endF rows W s6 = { s6 with mask:=m7,fin:=1 }):=Lib.hid (by rw [HEN.out,if_neg q1,if_pos q2]);clear q1 q2;go_wp2_with fail;go_meet;rw [HV.out]; exact hM7.set 5 _ _ rfl
  ·have e2 : (cellF rows W s6.x s6.y == 120) = false:=beq_eq_false_iff_ne.2 q2
   have HV : Hid (endF rows W s6 = { s6 with mask:=m7 }):=Lib.hid (by rw [HEN.out,if_neg q1,if_neg q2]);clear q1 q2;go_wp2_with fail;go_meet;rw [HV.out]; exact hM7
 case rest =>
 have hM8:=hcut;clear hcut hM7 y0 y1 HEN;generalize endF rows W s6 = s8 at *;obtain ⟨y0,y1,y2,y3,y4,y5⟩:=hM8.cells;have R0:=hM8.R;have hb8:=hM8.b;clear hM8
 have hi74 : (Tryz.prog.info? 74).map (·.size) = some 6:=by kernel_rfl
 go_upto_region 29 with (fail)
 go_cut [] (fun wx => Blk wx (w.heap.size + 1) 74 #[.int .i64 s8.x,.int .i64 s8.y,.int .i64 s8.rise,.bool s8.held,.int .i64 s8.mask,.int .i64 s8.fin] ∧ Below w.heap.size w wx)
 case first =>
  go_wp2_with (first | (refine wpList_storeRow rfl 74 _ _ rfl (w.heap.size + 1) #[.int .i64 s8.x,.int .i64 s8.y,.int .i64 s8.rise,.bool s8.held,.int .i64 s8.mask,.int .i64 s8.fin] rfl rfl 74 _ R0 hi74 rfl (one6 _ _ _ _ _ _) ?_; intro w8 hR8 hg8; clear hi74 R0 y0 y1 y2 y3 y4 y5) | fail)
  go_meet;exact ⟨hR8,hb8.grown hg8 hb8.size (fun k hk => by injection hk with hk; omega)⟩
 case rest =>
 obtain ⟨hR8,hb9⟩:=hcut;clear y0 y1 y2 y3 y4 y5 hi74 R0;have f0:=hR8.cell 0;have f1:=hR8.cell 1;have f2:=hR8.cell 2;have f3:=hR8.cell 3;have f4:=hR8.cell 4;have f5:=hR8.cell 5;simp only [Q0,Q2,Q1] at f0 f1 f2 f3 f4 f5;clear hR8
 go_at_K
 go_step
 refine wp_ret (show bodyPost _ _ _ _ _ _ from ?_);refine bodyPost_ret (res_step _ wc (w.heap.size + 1) _ _ _ _ _ _ rfl f0 f1 f2 f3 f4 f5) rfl ?_;exact ⟨by rw [HST.out],hb9⟩
end Go.Proofs.YtkchacgkjdeiaaaGreatDoor
/- The walk of body. -/
namespace Go.Proofs.YtkchacgkjdeiaaaGreatDoor
open Go.RowKit

theorem u64_small (m : Nat) (hm : m < 1024) : IntKind.u64.wrap (m : Int) = (m : Int):=IntWalk.u64_in _ ⟨by omega,by omega⟩
theorem res_body (tmps : Array Value) (w : World) (g : Nat) (x y r m f : Int) (hd : Bool) (hx : tmps.getD 2 undef = .pointer (some ⟨g,0,none⟩)) (f0 : w.cell? ⟨g,0,none⟩ = some (.int .i64 x)) (f1 : w.cell? ⟨g,1,none⟩ = some (.int .i64 y)) (f2 : w.cell? ⟨g,2,none⟩ = some (.int .i64 r)) (f3 : w.cell? ⟨g,3,none⟩ = some (.bool hd)) (f4 : w.cell? ⟨g,4,none⟩ = some (.int .i64 m)) (f5 : w.cell? ⟨g,5,none⟩ = some (.int .i64 f)) :
  (results Tryz.f47 tmps).run Tryz.prog w = .ok (.agg #[.int .i64 x,.int .i64 y,.int .i64 r,.bool hd,.int .i64 m,.int .i64 f]) w:=by
 have e : Tryz.f47.results = #[.cell 2 55]:=by kernel_rfl
 have hx' : tmps[2]?.getD undef = .pointer (some ⟨g,0,none⟩):=by simpa using hx
 simp [results,e,hx',go_sem,f0,f1,f2,f3,f4,f5]
set_option maxHeartbeats 2000000 in
set_option maxRecDepth 100000 in
theorem body_any (s : GS) (hm : s.mask < 1024) (w : World) :
  Calls Tryz.prog 47 #[gsV s] w fun e w' => e = .returned (gsV (bodyG s)) ∧ Below w.heap.size w w':=by
 have hu:=u64_small s.mask hm;have HM:=Lib.hid hm;clear hm;unfold gsV
 go_enter Tryz.func47,Tryz.ntmps47
 go_wp2_with fail;have hB:=(Blk.new w 74 #[.int .i64 s.x,.int .i64 s.y,.int .i64 s.rise,.bool s.held,.int .i64 s.mask,.int .i64 s.fin]).alloc (.cells #[.int .i64 0,.int .i64 0,.int .i64 0,.bool false,.int .i64 0,.int .i64 0] 55);have hR:=Blk.new (w.alloc (.cells #[.int .i64 s.x,.int .i64 s.y,.int .i64 s.rise,.bool s.held,.int .i64 s.mask,.int .i64 s.fin] 74)) 55 #[.int .i64 0,.int .i64 0,.int .i64 0,.bool false,.int .i64 0,.int .i64 0];rw [show (w.alloc (.cells #[.int .i64 s.x,.int .i64 s.y,.int .i64 s.rise,.bool s.held,.int .i64 s.mask,.int .i64 s.fin] 74)).heap.size = w.heap.size + 1 by simp] at hR;have hb0 : Below w.heap.size w ((w.alloc (.cells #[.int .i64 s.x,.int .i64 s.y,.int .i64 s.rise,.bool s.held,.int .i64 s.mask,.int .i64 s.fin] 74)).alloc (.cells #[.int .i64 0,.int .i64 0,.int .i64 0,.bool false,.int .i64 0,.int .i64 0] 55)):=((Below.refl _ w).alloc (Nat.le_refl _) _).alloc (by simp) _;generalize (w.alloc (.cells #[.int .i64 s.x,.int .i64 s.y,.int .i64 s.rise,.bool s.held,.int .i64 s.mask,.int .i64 s.fin] 74)).alloc (.cells #[.int .i64 0,.int .i64 0,.int .i64 0,.bool false,.int .i64 0,.int .i64 0] 55) = w0 at *;refine wp_region_held_drew (S:=(fun w' => w'.cell? ⟨w.heap.size,0,none⟩ = some (.int .i64 s.x) ∧ w'.cell? ⟨w.heap.size,1,none⟩ = some (.int .i64 s.y) ∧ w'.cell? ⟨w.heap.size,2,none⟩ = some (.int .i64 s.rise) ∧ w'.cell? ⟨w.heap.size,3,none⟩ = some (.bool s.held) ∧ w'.cell? ⟨w.heap.size,4,none⟩ = some (.int .i64 s.mask) ∧ w'.cell? ⟨w.heap.size,5,none⟩ = some (.int .i64 s.fin))) (by kernel_rfl) (⟨hB.cell 0,hB.cell 1,hB.cell 2,hB.cell 3,hB.cell 4,hB.cell 5⟩) (fun hHeld => ?_);have hB1:=hB.drew;have hR1:=hR.drew;have hb1:=hb0.drew;generalize w0.drew = wd at *;clear hB hR hb0;(refine QU 0 ?_; (try simp only [Act.put,Q3,Q4,Q5]));(refine QU 1 ?_; (try simp only [Act.put,Q3,Q4,Q5]));(refine QU 2 ?_; (try simp only [Act.put,Q3,Q4,Q5]));(refine QU 3 ?_; (try simp only [Act.put,Q3,Q4,Q5]));(refine QU 4 ?_; (try simp only [Act.put,Q3,Q4,Q5]));(refine QU 5 ?_; (try simp only [Act.put,Q3,Q4,Q5]));(refine QU 6 ?_; (try simp only [Act.put,Q3,Q4,Q5]));(refine QU 7 ?_; (try simp only [Act.put,Q3,Q4,Q5]));(refine QU 8 ?_; (try simp only [Act.put,Q3,Q4,Q5]));(refine QU 9 ?_; (try simp only [Act.put,Q3,Q4,Q5]));(refine QU 10 ?_; (try simp only [Act.put,Q3,Q4,Q5]));(refine QU 11 ?_; (try simp only [Act.put,Q3,Q4,Q5]));(refine QU 12 ?_; (try simp only [Act.put,Q3,Q4,Q5]));(refine QU 14 ?_; (try simp only [Act.put,Q3,Q4,Q5]));(refine QU 15 ?_; (try simp only [Act.put,Q3,Q4,Q5]));refine QR 13 fun K hK => ?_;go_simp;refine (onesCount_any s.mask HM.out _).mono ?_;rintro e w1 ⟨rfl,rfl⟩;go_wp2_with fail;refine hK.out _ _ hHeld (fun _ => ?_);clear hK K;(try simp only [Act.put,Q3,Q4,Q5]);(refine QU 16 ?_; (try simp only [Act.put,Q3,Q4,Q5]));refine QR 17 fun K hK => ?_;have z0:=hR1.thaw 0;have z1:=hR1.thaw 1;have z2:=hR1.thaw 2;have z3:=hR1.thaw 3;have z4:=hR1.thaw 4;have z5:=hR1.thaw 5;have x0:=hR1.cell 0;have x1:=hR1.cell 1;have x2:=hR1.cell 2;have x3:=hR1.cell 3;have x4:=hR1.cell 4;have x5:=hR1.cell 5;simp only [Q0,Q2,Q1] at x0 x1 x2 x3 x4 x5;go_simp;clear x0 x1 x2 x3 x4 x5 z0 z1 z2 z3 z4 z5
 have hR2:=((((((hR1.poke 0 (.int .i64 s.x)).poke 1 (.int .i64 s.y)).poke 2 (.int .i64 s.rise)).poke 3 (.bool s.held)).poke 4 (.int .i64 (popN s.mask))).poke 5 (.int .i64 s.fin))
 have hB2:=((((((hB1.past (w.heap.size + 1) 0 (.int .i64 s.x) (by omega)).past (w.heap.size + 1) 1 (.int .i64 s.y) (by omega)).past (w.heap.size + 1) 2 (.int .i64 s.rise) (by omega)).past (w.heap.size + 1) 3 (.bool s.held) (by omega)).past (w.heap.size + 1) 4 (.int .i64 (popN s.mask)) (by omega)).past (w.heap.size + 1) 5 (.int .i64 s.fin) (by omega))
 have hb2:=((((((hb1.setCell (p:=⟨w.heap.size + 1,0,none⟩) (by show w.heap.size ≤ w.heap.size + 1; omega) (.int .i64 s.x)).setCell (p:=⟨w.heap.size + 1,1,none⟩) (by show w.heap.size ≤ w.heap.size + 1; omega) (.int .i64 s.y)).setCell (p:=⟨w.heap.size + 1,2,none⟩) (by show w.heap.size ≤ w.heap.size + 1; omega) (.int .i64 s.rise)).setCell (p:=⟨w.heap.size + 1,3,none⟩) (by show w.heap.size ≤ w.heap.size + 1; omega) (.bool s.held)).setCell (p:=⟨w.heap.size + 1,4,none⟩) (by show w.heap.size ≤ w.heap.size + 1; omega) (.int .i64 (popN s.mask))).setCell (p:=⟨w.heap.size + 1,5,none⟩) (by show w.heap.size ≤ w.heap.size + 1; omega) (.int .i64 s.fin))
 simp only [Q3,Q4,Q5] at hR2
 have hS2 : _ ∧ _ ∧ _ ∧ _ ∧ _ ∧ _:=⟨hB2.cell 0,hB2.cell 1,hB2.cell 2,hB2.cell 3,hB2.cell 4,hB2.cell 5⟩
 simp only [Q0,Q2,Q1] at hS2;refine hK.out _ _ ?_ (fun _ => ?_)
 ·exact hS2
 clear hK K hB2 hB1 hR1 hb1 hS2;refine wpAnyH_done (by kernel_rfl) ?_ _;have f0:=hR2.cell 0;have f1:=hR2.cell 1;have f2:=hR2.cell 2;have f3:=hR2.cell 3;have f4:=hR2.cell 4;have f5:=hR2.cell 5;simp only [Q0,Q2,Q1] at f0 f1 f2 f3 f4 f5;clear hR2 hHeld;generalize ((((((w1.setCell ⟨w.heap.size + 1,0,none⟩ (.int .i64 s.x)).setCell ⟨w.heap.size + 1,1,none⟩ (.int .i64 s.y)).setCell ⟨w.heap.size + 1,2,none⟩ (.int .i64 s.rise)).setCell ⟨w.heap.size + 1,3,none⟩ (.bool s.held)).setCell ⟨w.heap.size + 1,4,none⟩ (.int .i64 (popN s.mask))).setCell ⟨w.heap.size + 1,5,none⟩ (.int .i64 s.fin)) = W at f0 f1 f2 f3 f4 f5 hb2 ⊢
 go_step
 go_step
 refine wp_ret (show bodyPost _ _ _ _ _ _ from ?_);refine bodyPost_ret (res_body _ _ (w.heap.size + 1) _ _ _ _ _ _ rfl f0 f1 f2 f3 f4 f5) rfl ?_;refine ⟨?_,hb2⟩;simp only [bodyG]
end Go.Proofs.YtkchacgkjdeiaaaGreatDoor
/- The walk of states. -/
namespace Go.Proofs.YtkchacgkjdeiaaaGreatDoor
open Go.RowKit Go.Maps

theorem ty_gss : SliceTy Tryz.prog 106 74 6 48:=.mk' Tryz.underlying106 (z:=.agg #[.int .i64 0,.int .i64 0,.int .i64 0,.bool false,.int .i64 0,.int .i64 0]) (by kernel_rfl) rfl (by decide)
theorem own_down {w : World} {base base' : Nat} {e : TypeId} {size : Nat} {v : Value} {n : Nat} {xs : List Value} (h : w.ownsRow base e size v n xs) (hb : base' ≤ base) : w.ownsRow base' e size v n xs :=
 ⟨h.1,h.2.imp id fun ⟨g,cap,cur,h1,h2,h3⟩ => ⟨g,cap,cur,h1,Nat.le_trans hb h2,h3⟩⟩
theorem Blk.farG {w1 w2 : World} {g base n size : Nat} {t e : TypeId} {cs : Array Value} {v : Value} {xs : List Value} {o : Obj} (hown : w1.ownsRow base e size v n xs) (h : Blk (w1.alloc o) g t cs) (hg : (w1.alloc o).grownBy w2 v.ownBlock) (hb : g < base) : Blk w2 g t cs :=
 (hg.block g h.lt (fun e => by have:=(hown.lt g e.symm).1; omega)).trans h
set_option maxHeartbeats 2000000 in
set_option maxRecDepth 100000 in
theorem states_any (p lo : Nat) (A : Option Addr) (c : Nat) (rows : List (List UInt8)) (W : Nat) (sx sy : Int) (mb : Nat) (w : World) (hr : Row w lo 1 A rows.length (strs rows)) (hL : Lv rows W) (hg : GmI w p A c rows W sx sy mb) (hc : cellF rows W sx sy = 115)
  (B : Option Addr) (d : Nat) (xs : List Int) (hx : Row w lo 1 B xs.length (u8s xs)) (hv : ∀ x ∈ xs,0 ≤ x ∧ x < 64) (hl : xs.length ≤ 1000000) :
  Calls Tryz.prog 51 #[.pointer (some ⟨p,0,none⟩),.slice B xs.length d] w fun e w' => ∃ A' c',e = .returned (.slice A' (playF rows W (gs0 sx sy) xs).length c') ∧ w'.ownsRow w.heap.size 74 6 (.slice A' (playF rows W (gs0 sx sy) xs).length c') (playF rows W (gs0 sx sy) xs).length (gss (playF rows W (gs0 sx sy) xs)) ∧ Below w.heap.size w w':=by
 have HG:=Lib.hid hg;have HR:=Lib.hid hr;have HL:=Lib.hid hL;have HX:=Lib.hid hx;have HV:=Lib.hid hv;have hs0:=start_ok hL hc;have HPL : Hid ((playF rows W (gs0 sx sy) xs).length ≤ xs.length):=Lib.hid playF_len;clear hr hL hx hv hc
 go_enter Tryz.func51,Tryz.ntmps51
 go_wp2_with fail;go_at_call 59;refine (beginG_any p A c rows W sx sy mb _ hg).mono ?_;rintro e w1 ⟨rfl,hb1⟩;clear hg;go_wp2_with fail;generalize h21 : w1.alloc (.cells #[.int .i64 sx,.int .i64 sy,.int .i64 0,.bool false,.int .i64 0,.int .i64 0] 74) = w2
 have hb2 : Below w.heap.size w w2:=by rw [← h21]; exact hb1.alloc hb1.size _
 have hS2 : Blk w2 w1.heap.size 74 #[.int .i64 sx,.int .i64 sy,.int .i64 0,.bool false,.int .i64 0,.int .i64 0]:=by rw [← h21]; exact Blk.new _ _ _
 have hle : w.heap.size ≤ w1.heap.size:=hb1.size;have hlt2 : w1.heap.size + 1 ≤ w2.heap.size:=hS2.lt;clear h21 hb1;generalize w1.heap.size = S at *
 obtain ⟨B0,hB0⟩ : ∃ B0,B0 = S + 1:=⟨_,rfl⟩
 have HB0 : Hid (w.heap.size ≤ S ∧ S < B0 ∧ B0 = S + 1):=Lib.hid ⟨hle,by omega,hB0⟩;rw [← hB0] at hlt2;clear hle hB0
 go_loopw [6,13] (fun v i wr => ∃ (k : Nat) (A' : Option Addr) (c' : Nat) (us : List GS) (s : GS),k ≤ xs.length ∧ us.length ≤ k ∧ i = .int .i64 k ∧ v = .slice A' us.length c' ∧ wr.ownsRow B0 74 6 (.slice A' us.length c') us.length (gss us) ∧ Blk wr S 74 #[.int .i64 s.x,.int .i64 s.y,.int .i64 s.rise,.bool s.held,.int .i64 s.mask,.int .i64 s.fin] ∧ Hid (GOk rows W s) ∧ Hid (s.fin = 0) ∧ Hid (us ++ playF rows W s (xs.drop k) = playF rows W (gs0 sx sy) xs) ∧ B0 ≤ wr.heap.size ∧ Below w.heap.size w wr) (fun _ i _ => xs.length - (intOf i).toNat)
 case atStart => exact ⟨0,none,0,[],gs0 sx sy,Nat.zero_le _,Nat.le_refl _,rfl,rfl,World.ownsRow_nil _ _ _ _,hS2,Lib.hid hs0,Lib.hid rfl,Lib.hid rfl,hlt2,hb2⟩
 case round =>
  obtain ⟨k,A',c',us,s,hk,hus,rfl,rfl,hown,hS,HOK,HF,HP,hlt,hbw⟩:=hrel;clear hS2 hb2 hlt2 hs0
  by_cases hkn : k < xs.length
  ·obtain ⟨bb,off,rfl,_,hbs,c0⟩:=(HX.out.below hbw).u8_at hkn
   obtain ⟨v0,v1⟩:=HV.out xs[k] (List.getElem_mem _)
   obtain ⟨y0,y1,y2,y3,y4,y5⟩ : _ ∧ _ ∧ _ ∧ _ ∧ _ ∧ _:=⟨hS.cell 0,hS.cell 1,hS.cell 2,hS.cell 3,hS.cell 4,hS.cell 5⟩
   simp only [Q0,Q2,Q1] at y0 y1 y2 y3 y4 y5;have HFR:=Lib.hid hS;clear hS;go_wp2_with fail;refine (step_any p lo A c rows W sx sy mb _ (HR.out.below hbw) HL.out (HG.out.below hbw) s HOK.out HF.out xs[k] v0 v1).mono ?_;rintro e w5 ⟨rfl,hb5⟩;have HOK':=Lib.hid (HOK.out.step (h:=xs[k]) HL.out HF.out);have HPA : Hid ((stepF rows W xs[k] s).fin ≠ 0 → us ++ [stepF rows W xs[k] s] = playF rows W (gs0 sx sy) xs):=Lib.hid (fun hf => playF_all hkn HP.out hf);have HPM : Hid ((stepF rows W xs[k] s).fin = 0 → (us ++ [stepF rows W xs[k] s]) ++ playF rows W (stepF rows W xs[k] s) (xs.drop (k + 1)) = playF rows W (gs0 sx sy) xs):=Lib.hid (fun hf => playF_more hkn HP.out hf);have hS5:=HFR.out.below hb5;have hown5:=own_keep hown hb5;have hb5':=below_up hbw (hb5.mono (Nat.le_refl _));have hlt5 : B0 ≤ w5.heap.size:=Nat.le_trans hlt hb5.size;clear y0 y1 y2 y3 y4 y5 HFR hown HOK HF HP hb5 hlt c0 v0 v1 hbs hbw;generalize stepF rows W xs[k] s = t at *;unfold gsV
   have hi : (Tryz.prog.info? 74).map (·.size) = some 6:=by kernel_rfl
   have hone:=one6 t.x t.y t.rise t.mask t.fin t.held
   go_wp2_with (first | (refine wpList_storeRow rfl 74 _ _ rfl S #[.int .i64 t.x,.int .i64 t.y,.int .i64 t.rise,.bool t.held,.int .i64 t.mask,.int .i64 t.fin] rfl rfl 74 _ hS5 hi rfl hone ?_; intro w6 hS6 hg6; have hown6:=own_grown hown5 hg6 HB0.out.2.1; have hlt6 : B0 ≤ w6.heap.size:=Nat.le_trans hlt5 hg6.size; have y0:=hS6.cell 0; have y1:=hS6.cell 1; have y2:=hS6.cell 2; have y3:=hS6.cell 3; have y4:=hS6.cell 4; have y5:=hS6.cell 5; simp only [Q0,Q2,Q1] at y0 y1 y2 y3 y4 y5) | (at_builtin; go_must (refine wpList_app (lo:=B0) (base:=B0) (n:=us.length) (xs:=gss us) _ _ rfl _ _ ty_gss rfl (by repeat (first | exact hown6 | refine World.ownsRow.alloc ?_ _ | refine own_drewN ?_ _ | refine World.ownsRow.drew ?_)) rfl (by first | exact row_new' _ (by first | rfl | simp) (by first | omega | (simp; omega)) rfl | exact row_newN _ _ (by first | rfl | simp) (by first | omega | (simp; omega)) rfl | exact row_newD _ (by first | rfl | simp) (by first | omega | (simp; omega)) rfl) rfl rfl (by first | omega | decide) (by first | omega | decide) (by first | omega | (simp; omega)) ?_)))
   intro A7 c7 w7 hown7 hg7 _;have hS7:=Blk.farG hown6 (hS6.alloc _) hg7 HB0.out.2.1;have hb6 : Below w.heap.size w w6:=hb5'.grown hg6 (Nat.le_trans HB0.out.1 (by have:=HB0.out.2.1; omega)) (fun k hk => by injection hk with hk; rw [← hk]; exact HB0.out.1);have hb7:=below_app hown6 (hb6.alloc (by have:=HB0.out; omega) _) hg7 (by have:=HB0.out; omega) (by have:=HB0.out; simp; omega);have hlt7 : B0 ≤ w7.heap.size:=Nat.le_trans hlt6 (by have:=hg7.size; simp at this; omega)
   have hgs : gss us ++ [Value.int IntKind.i64 t.x,Value.int IntKind.i64 t.y,Value.int IntKind.i64 t.rise,Value.bool t.held,Value.int IntKind.i64 t.mask,Value.int IntKind.i64 t.fin] = gss (us ++ [t]):=by rw [gss_app,gss_one]; rfl
   rw [hgs] at hown7
   have hul : us.length + 1 = (us ++ [t]).length:=by simp
   clear hgs hg7 hg6 hown6 hS6 hb6 hb5' hown5 hS5 hlt5 hlt6 y0 y1 y2 y3 y4 y5 hi hone;rw [hul] at hown7;have HUL:=Lib.hid hul
   have hul' : (us ++ [t]).length ≤ k + 1:=by simp; omega
   rw [hul];clear hul;have y5:=hS7.cell 5;simp only [Q0,Q2,Q1] at y5
   by_cases hf : t.fin = 0
   ·have d0 : (t.fin != 0) = false:=by rw [hf]; rfl
    have HPM':=Lib.hid (HPM.out hf);have HF:=Lib.hid hf;clear HPA HPM HPL hf;generalize us ++ [t] = us' at *;have HS7:=Lib.hid hS7;clear hS7;go_wp2_with fail;go_roundw
    case rel => exact ⟨k + 1,A7,c7,us',t,by omega,hul',by go_num,rfl,hown7,HS7.out,HOK',HF,HPM',hlt7,hb7⟩
    case measure => simp [intOf]; omega
   ·have d0 : (t.fin != 0) = true:=bne_iff_ne.2 hf
    have HPA':=Lib.hid (HPA.out hf);clear HPA HPM HPL hf hS7;generalize us ++ [t] = us' at *;have HOW:=Lib.hid (own_down hown7 (show w.heap.size ≤ B0 by have:=HB0.out; omega));clear hown7;go_wp2_with fail;go_ret;rw [← HPA'.out];exact ⟨A7,c7,rfl,HOW.out,hb7⟩
  ·have hke : k = xs.length:=by omega
   subst hke;have HE:=Lib.hid (playF_end HP.out);have HOW:=Lib.hid (own_down hown (show w.heap.size ≤ B0 by have:=HB0.out; omega));clear hown hS HPL;go_wp2_with fail;go_ret;rw [← HE.out];exact ⟨A',c',rfl,HOW.out,hbw⟩
end Go.Proofs.YtkchacgkjdeiaaaGreatDoor
/- The walk of the reference's frame. -/
namespace Go.Proofs.YtkchacgkjdeiaaaGreatDoor
open Go.RowKit Go.Maps

def mapF (rows : List (List UInt8)) (W m : Nat) : Int → Int → Option Lit:=fun a b => if cellF rows W a b = 111 ∧ m &&& bitF rows W a b ≠ 0 then some (.bool true) else none
def Others (w wx : World) (p q : Nat) : Prop:=w.heap.size ≤ wx.heap.size ∧ ∀ k,k < w.heap.size → k ≠ p → k ≠ q → wx.heap[k]? = w.heap[k]?
theorem Others.below {w wx w' : World} {p q : Nat} (h : Others w wx p q) (hb : Below wx.heap.size wx w') : Others w w' p q:=⟨Nat.le_trans h.1 hb.size,fun k hk h1 h2 => (hb.block k (Nat.lt_of_lt_of_le hk h.1)).trans (h.2 k hk h1 h2)⟩
theorem Others.set {w wx : World} {p q : Nat} (h : Others w wx p q) (g i : Nat) (u : Value) (hg : g = p ∨ w.heap.size ≤ g) : Others w (wx.setCell ⟨g,i,none⟩ u) p q :=
 ⟨by have:=h.1; simpa [World.setCell] using this,fun k hk h1 h2 => (Below.heap_setCell wx ⟨g,i,none⟩ u k (by show k ≠ g; rcases hg with rfl | hg; exact h1; omega)).trans (h.2 k hk h1 h2)⟩
theorem Others.grown {w wx w' : World} {p q : Nat} (h : Others w wx p q) (hg : wx.grownBy w' (some q)) : Others w w' p q:=⟨Nat.le_trans h.1 hg.size,fun k hk h1 h2 => (hg.block k (Nat.lt_of_lt_of_le hk h.1) (fun e => h2 (Option.some.inj e))).trans (h.2 k hk h1 h2)⟩
theorem Others.refl (w : World) (p q : Nat) : Others w w p q:=⟨Nat.le_refl _,fun _ _ _ _ => rfl⟩
structure MidR (w0 ww wx : World) (p : Nat) (A : Option Addr) (c : Nat) (rows : List (List UInt8)) (W mb b1 b2 : Nat) (t : GS) : Prop where
  g : Blk wx p 94 #[.slice A rows.length c, .int .i64 t.x, .int .i64 t.y, .int .i64 t.rise, .bool t.held, .int .i64 (popN t.mask), .int .i64 t.fin, .map (some mb)]
  k1 : Blk wx b1 84 #[.pointer (some ⟨p, 0, none⟩)]
  k2 : Blk wx b2 205 #[.pointer (some ⟨p, 1, none⟩)]
  m : MapP 172 4 wx mb (popN t.mask) (mapF rows W t.mask)
  ne : b1 ≠ p ∧ b2 ≠ p ∧ mb ≠ p
  lo : w0.heap.size ≤ p ∧ w0.heap.size ≤ mb
  b : Below w0.heap.size w0 wx
  o : Others ww wx p mb
section
variable {w0 ww wx w' : World} {p : Nat} {A : Option Addr} {c : Nat} {rows : List (List UInt8)} {W mb b1 b2 : Nat} {t : GS}
theorem MidR.below (h : MidR w0 ww wx p A c rows W mb b1 b2 t) (hb : Below wx.heap.size wx w') : MidR w0 ww w' p A c rows W mb b1 b2 t :=
 ⟨h.g.below hb,h.k1.below hb,h.k2.below hb,h.m.below hb,h.ne,h.lo,h.b.trans (hb.mono h.b.size),h.o.below hb⟩
theorem MidR.drewN (h : MidR w0 ww wx p A c rows W mb b1 b2 t) (n : Nat) : MidR w0 ww (wx.drewN n) p A c rows W mb b1 b2 t:=h.below (below_drewN' (Below.refl _ _) n)
theorem MidR.cells (h : MidR w0 ww wx p A c rows W mb b1 b2 t) : wx.cell? ⟨p,0,none⟩ = some (.slice A rows.length c) ∧ wx.cell? ⟨p,1,none⟩ = some (.int .i64 t.x) ∧ wx.cell? ⟨p,2,none⟩ = some (.int .i64 t.y) ∧ wx.cell? ⟨p,3,none⟩ = some (.int .i64 t.rise) ∧ wx.cell? ⟨p,4,none⟩ = some (.bool t.held) ∧ wx.cell? ⟨p,5,none⟩ = some (.int .i64 (popN t.mask)) ∧ wx.cell? ⟨p,6,none⟩ = some (.int .i64 t.fin) ∧ wx.cell? ⟨p,7,none⟩ = some (.map (some mb)) ∧ wx.cell? ⟨b1,0,none⟩ = some (.pointer (some ⟨p,0,none⟩)) ∧ wx.cell? ⟨b2,0,none⟩ = some (.pointer (some ⟨p,1,none⟩)) :=
 ⟨h.g.cell 0,h.g.cell 1,h.g.cell 2,h.g.cell 3,h.g.cell 4,h.g.cell 5,h.g.cell 6,h.g.cell 7,h.k1.cell 0,h.k2.cell 0⟩
theorem MidR.set (h : MidR w0 ww wx p A c rows W mb b1 b2 t) (i : Nat) (u : Value) (t' : GS) (hm : t'.mask = t.mask)
  (e : (#[.slice A rows.length c,.int .i64 t.x,.int .i64 t.y,.int .i64 t.rise,.bool t.held,.int .i64 (popN t.mask),.int .i64 t.fin,.map (some mb)] : Array Value).setIfInBounds i u = #[.slice A rows.length c,.int .i64 t'.x,.int .i64 t'.y,.int .i64 t'.rise,.bool t'.held,.int .i64 (popN t'.mask),.int .i64 t'.fin,.map (some mb)]) :
  MidR w0 ww (wx.setCell ⟨p,i,none⟩ u) p A c rows W mb b1 b2 t' :=
 ⟨e ▸ h.g.poke i u,h.k1.past _ _ _ h.ne.1,h.k2.past _ _ _ h.ne.2.1,by rw [hm]; exact h.m.kept (grown_set (World.grownBy.refl wx (some p)) i u) (fun e => h.ne.2.2 (by injection e)),h.ne,h.lo,h.b.setCell h.lo.1 u,h.o.set p i u (.inl rfl)⟩
end
theorem MidR.far {w0 ww wx : World} {p : Nat} {A : Option Addr} {c : Nat} {rows : List (List UInt8)} {W mb b1 b2 : Nat} {t : GS} (h : MidR w0 ww wx p A c rows W mb b1 b2 t) (k i : Nat) (u : Value) (n1 : p ≠ k) (n2 : b1 ≠ k) (n3 : b2 ≠ k) (n4 : mb ≠ k) (n5 : w0.heap.size ≤ k) (n6 : ww.heap.size ≤ k) : MidR w0 ww (wx.setCell ⟨k,i,none⟩ u) p A c rows W mb b1 b2 t :=
 ⟨h.g.past _ _ _ n1,h.k1.past _ _ _ n2,h.k2.past _ _ _ n3,h.m.kept (grown_set (World.grownBy.refl wx (some k)) i u) (fun e => n4 (by injection e)),h.ne,h.lo,h.b.setCell n5 u,h.o.set k i u (.inr n6)⟩
theorem MidR.fin {w0 ww wx : World} {p : Nat} {A : Option Addr} {c : Nat} {rows : List (List UInt8)} {W mb b1 b2 : Nat} {t : GS} (h : MidR w0 ww wx p A c rows W mb b1 b2 t) : GmR wx p A c rows W t mb (popN t.mask) ∧ Below w0.heap.size w0 wx ∧ Others ww wx p mb :=
 ⟨⟨h.g,h.m,fun e => h.ne.2.2 e.symm⟩,h.b,h.o⟩
end Go.Proofs.YtkchacgkjdeiaaaGreatDoor
/- The walk of the reference's trace. -/
namespace Go.Proofs.YtkchacgkjdeiaaaGreatDoor
open Go.RowKit Go.Maps

theorem GmR.farG {w1 w2 : World} {p : Nat} {A : Option Addr} {c : Nat} {rows : List (List UInt8)} {W : Nat} {s : GS} {mb n : Nat} {base m size : Nat} {e : TypeId} {v : Value} {xs : List Value} {o : Obj} (h : GmR w1 p A c rows W s mb n) (hown : w1.ownsRow base e size v m xs) (hg : (w1.alloc o).grownBy w2 v.ownBlock) (hp : p < base) (hq : mb < base) : GmR w2 p A c rows W s mb n :=
 ⟨Blk.farG hown (h.blk.alloc o) hg hp,(h.map.alloc o).kept hg (fun e => by have:=(hown.lt mb e.symm).1; omega),h.ne⟩
end Go.Proofs.YtkchacgkjdeiaaaGreatDoor
/- The walks of fault, Play and Trace. -/
namespace Go.Proofs.YtkchacgkjdeiaaaGreatDoor
open Go.RowKit Go.Maps

theorem unf_64 {ps : List (Int × Int)} (h : inFault ps = 0) : ∀ x ∈ unf ps,0 ≤ x ∧ x < 64 :=
 unf_mem (P:=fun x => 0 ≤ x ∧ x < 64) fun p hp => by have:=(inFault_ok h).2.1 p hp; omega
theorem unf_20 {ps : List (Int × Int)} (h : inFault ps = 0) : (unf ps).length ≤ 200000:=by
 obtain ⟨_,h2,h3⟩:=inFault_ok h;have:=unf_len ps (fun p hp => by have:=h2 p hp; omega);omega
theorem Lv.start {rows : List (List UInt8)} {W : Nat} (hL : Lv rows W) : ∃ sx sy : Int,cellF rows W sx sy = 115:=by
 have h1 : (115 : UInt8) ∈ rows.flatten:=List.count_pos_iff.1 (by have:=hL.one; unfold cntG at this; omega);obtain ⟨r,hr,h2⟩:=List.mem_flatten.1 h1;obtain ⟨Y,hY,rfl⟩:=List.getElem_of_mem hr;obtain ⟨X,hX,h3⟩:=List.getElem_of_mem h2;have hW:=hL.wide _ (List.getElem_mem hY);exact ⟨X,Y,by rw [cellF_in hY (by omega) hX,h3]; rfl⟩
theorem row_down {w : World} {lo size : Nat} {A : Option Addr} {n : Nat} {cs : List Value} (h : Row w lo size A n cs) : Row w 0 size A n cs :=
 ⟨h.1,fun hn => let ⟨b,off,e,_,h2,h3⟩:=h.2 hn; ⟨b,off,e,Nat.zero_le _,h2,h3⟩⟩
def lastG (l : List GS) (s : GS) : GS:=l.getLastD s
theorem lastG_at {l : List GS} {s : GS} (h : 0 < l.length) : lastG l s = l[l.length - 1]:=by
 unfold lastG;rw [List.getLastD_eq_getLast?,List.getLast?_eq_getElem?]
 simp [show l.length - 1 < l.length by omega]
set_option maxHeartbeats 2000000 in
set_option maxRecDepth 100000 in
theorem faultG_any (lo : Nat) (A : Option Addr) (c : Nat) (rows : List (List UInt8)) (B : Option Addr) (d : Nat) (ps : List (Int × Int)) (w : World) (hr : Row w lo 1 A rows.length (strs rows)) (hl : rows.length ≤ 1000) (hb : ∀ r ∈ rows,r.length ≤ 1000) (hx : Row w lo 2 B ps.length (prs ps)) (hn : ps.length ≤ 1000000000) :
  Calls Tryz.prog 49 #[.slice A rows.length c,.slice B ps.length d] w fun e w' => e = .returned (.int .i64 (firstE [glvF rows,inFault ps])) ∧ Below w.heap.size w w':=by
 go_enter Tryz.func49,Tryz.ntmps49
 go_wp2_with fail;refine (checkLevel_any A c lo rows _ hr hl hb).mono ?_;rintro e w1 ⟨rfl,rfl⟩;go_wp2_with fail;refine (checkInput_any B d lo ps _ hx hn).mono ?_;rintro e w2 ⟨rfl,hb2⟩;clear hb;go_wp2_with fail;refine (first_any _ 2 w2.heap.size [glvF rows,inFault ps] _ (by first | exact row_new' _ (by first | rfl | simp) (by first | omega | (simp; omega)) rfl | exact row_newN _ _ (by first | rfl | simp) (by first | omega | (simp; omega)) rfl | exact row_newD _ (by first | rfl | simp) (by first | omega | (simp; omega)) rfl) (by simp)).mono ?_;rintro e w3 ⟨rfl,rfl⟩;have hz:=hb2.size;go_wp2_with fail;go_ret;exact ⟨rfl,(by repeat (first | exact hb2 | refine Below.alloc ?_ (by first | omega | (simp; omega)) _ | refine below_drewN' ?_ _ | refine Below.drew ?_))⟩
theorem res_play (tmps : Array Value) (w : World) (g : Nat) (x y r m f : Int) (hd : Bool) (u v : Value) (hx : tmps.getD 4 undef = .pointer (some ⟨g,0,none⟩)) (hu : tmps.getD 5 undef = u) (hv : tmps.getD 6 undef = v) (f0 : w.cell? ⟨g,0,none⟩ = some (.int .i64 x)) (f1 : w.cell? ⟨g,1,none⟩ = some (.int .i64 y)) (f2 : w.cell? ⟨g,2,none⟩ = some (.int .i64 r)) (f3 : w.cell? ⟨g,3,none⟩ = some (.bool hd)) (f4 : w.cell? ⟨g,4,none⟩ = some (.int .i64 m)) (f5 : w.cell? ⟨g,5,none⟩ = some (.int .i64 f)) :
  (results Tryz.f24 tmps).run Tryz.prog w = .ok (.tuple #[.agg #[.int .i64 x,.int .i64 y,.int .i64 r,.bool hd,.int .i64 m,.int .i64 f],u,v]) w:=by
 have e : Tryz.f24.results = #[.cell 4 55,.tmp 5,.tmp 6]:=by kernel_rfl
 have hx' : tmps[4]?.getD undef = .pointer (some ⟨g,0,none⟩):=by simpa using hx
 have hu' : tmps[5]?.getD undef = u:=by simpa using hu
 have hv' : tmps[6]?.getD undef = v:=by simpa using hv
 simp [results,e,hx',hu',hv',go_sem,f0,f1,f2,f3,f4,f5]
theorem gsV_pm {q : GS} {pm : Nat} (h : pm = popN q.mask) : gsV (bodyG q) = .agg #[.int .i64 q.x,.int .i64 q.y,.int .i64 q.rise,.bool q.held,.int .i64 pm,.int .i64 q.fin]:=by
 unfold gsV bodyG;dsimp only;rw [← h]
def playV (rows : List (List UInt8)) (W : Nat) (sx sy : Int) (xs : List Int) : Value:=gsV (bodyG (lastG (playF rows W (gs0 sx sy) xs) (gs0 sx sy)))
set_option maxHeartbeats 2000000 in
set_option maxRecDepth 100000 in
theorem play_ok (lo : Nat) (A : Option Addr) (c : Nat) (rows : List (List UInt8)) (W : Nat) (sx sy : Int) (B : Option Addr) (d : Nat) (ps : List (Int × Int)) (w : World) (hr : Row w lo 1 A rows.length (strs rows)) (hL : Lv rows W) (hc : cellF rows W sx sy = 115) (hx : Row w lo 2 B ps.length (prs ps)) (hlv : glvF rows = 0) (hin : inFault ps = 0) :
  Calls Tryz.prog 24 #[.slice A rows.length c,.slice B ps.length d] w fun e w' => e = .returned (.tuple #[playV rows W sx sy (unf ps),.int .i64 (playF rows W (gs0 sx sy) (unf ps)).length,.int .i64 0]) ∧ Below w.heap.size w w':=by
 obtain ⟨i1,i2,i3⟩:=inFault_ok hin;have HP : Hid (∀ p ∈ ps,0 ≤ p.2):=Lib.hid (fun p hp => by have:=i2 p hp; omega);have HV : Hid (∀ p ∈ ps,0 ≤ p.1 ∧ p.1 ≤ 255):=Lib.hid (fun p hp => by have:=i2 p hp; omega);have H64:=Lib.hid (unf_64 hin);have H20:=Lib.hid (unf_20 hin);have HC:=Lib.hid (fun o => faultG_any lo A c rows B d ps (w.alloc o) (hr.alloc o) (by have:=hL.le; omega) (fun r hr => by have:=hL.wide r hr; have:=hL.W60; omega) (hx.alloc o) (by omega));rw [hlv,hin] at HC;have hk:=Blk.new w 55 #[.int .i64 0,.int .i64 0,.int .i64 0,.bool false,.int .i64 0,.int .i64 0];have HL:=Lib.hid hL;have HCC:=Lib.hid hc;have HR:=Lib.hid hr;have HX:=Lib.hid hx;have HI : Hid (psum ps ≤ 1000000000 ∧ ps.length ≤ 1000000000):=Lib.hid ⟨by omega,by omega⟩;clear hr hL hc hx hlv hin i1 i2 i3
 go_enter Tryz.func24,Tryz.ntmps24
 go_wp2_with fail;refine (HC.out _).mono ?_;rintro e w1 ⟨rfl,hb1⟩;have hk1:=hk.below hb1;have hb2 : Below w.heap.size w w1:=((Below.refl _ w).alloc (Nat.le_refl _) _).trans (hb1.mono (by simp));clear hk hb1 HC;go_wp2_with fail;refine (newGame_any lo A c rows W _ (HR.out.below hb2) HL.out).mono ?_;rintro e w3 ⟨p,sx',sy',mb,rfl,hg3,hc3,hb3⟩;obtain ⟨rfl,rfl⟩:=HL.out.start_one HCC.out hc3;have hk3:=hk1.below hb3;have hb4:=below_up hb2 (hb3.mono (Nat.le_refl _));have HG3:=Lib.hid hg3;clear hc3 hk1 hb2 hb3 hg3;go_wp2_with fail;refine (spread_any B d lo ps _ (HX.out.below hb4) HI.out.2 HP.out HV.out HI.out.1).mono ?_;rintro e w5 ⟨A5,c5,rfl,hown5,hb5⟩;have HG5:=Lib.hid (HG3.out.below hb5);have hk5:=hk3.below hb5;have hb6:=below_up hb4 (hb5.mono (Nat.le_refl _));clear HG3 hk3 hb4 hb5;go_wp2_with fail;refine (states_any p 0 A c rows W sx sy mb w5 (row_down (HR.out.below hb6)) HL.out HG5.out HCC.out A5 c5 (unf ps) (row_down (Row.of_own hown5)) H64.out (by have:=H20.out; omega)).mono ?_;rintro e w7 ⟨A7,c7,rfl,hown7,hb7⟩;have HG7:=Lib.hid (HG5.out.below hb7);have hk7:=hk5.below hb7;have hb8:=below_up hb6 (hb7.mono (Nat.le_refl _));clear HG5 hk5 hb6 hb7 hown5;have HOK : Hid (∀ t ∈ playF rows W (gs0 sx sy) (unf ps),GOk rows W t):=Lib.hid (playF_ok HL.out (start_ok HL.out HCC.out) rfl);have HLL : Hid ((playF rows W (gs0 sx sy) (unf ps)).length ≤ 200000):=Lib.hid (Nat.le_trans playF_len H20.out);have HPV : Hid (playV rows W sx sy (unf ps) = gsV (bodyG (lastG (playF rows W (gs0 sx sy) (unf ps)) (gs0 sx sy)))):=Lib.hid rfl
 obtain ⟨L,hD⟩ : ∃ L,L = playF rows W (gs0 sx sy) (unf ps):=⟨_,rfl⟩
 rw [← hD] at HPV HOK HLL hown7 ⊢;have HD:=Lib.hid hD;clear hD
 by_cases h0 : L.length = 0
 ·have HN : Hid (L = []):=Lib.hid (List.eq_nil_of_length_eq_zero h0)
  have d0 : ((L.length : Int) == 0) = true:=by simp [h0]
  have HLZ : Hid ((L.length : Int) = 0):=Lib.hid (by omega);clear h0 hown7;generalize L.length = n at *;go_wp2_with fail;refine (beginG_any p A c rows W sx sy mb _ HG7.out).mono ?_;rintro e w8 ⟨rfl,hb9⟩;go_wp2_with fail;refine (body_any (gs0 sx sy) (by show (0 : Nat) < 1024; omega) w8).mono ?_;rintro e w10 ⟨rfl,hb10⟩;replace hb9 : Below w7.heap.size w7 w10:=below_up hb9 (hb10.mono (Nat.le_refl _));clear hb10;have HQ : Hid (lastG L (gs0 sx sy) = gs0 sx sy):=Lib.hid (by rw [HN.out]; rfl)
  obtain ⟨q,hq⟩ : ∃ q,q = gs0 sx sy:=⟨_,rfl⟩
  rw [← hq] at HQ HPV HD ⊢;have HZ : Hid ((n : Int) = 0 ∧ L.length = n):=Lib.hid ⟨HLZ.out,by have:=HLZ.out; rw [HN.out]; simp; omega⟩;have HQQ:=Lib.hid hq;clear hq;have hk8:=hk7.below hb9;have hb8':=below_up hb8 (hb9.mono (Nat.le_refl _));clear hk7 hb8 hb9;simp only [gsV,bodyG]
  obtain ⟨pm,hpm⟩ : ∃ pm,pm = popN q.mask:=⟨_,rfl⟩
  rw [← hpm];have HPM:=Lib.hid hpm;clear hpm
  have hi : (Tryz.prog.info? 55).map (·.size) = some 6:=by kernel_rfl
  have hone:=one6 q.x q.y q.rise (pm : Nat) q.fin q.held
  go_wp2_with (first | (refine wpList_storeRow rfl 55 _ _ rfl w.heap.size #[.int .i64 q.x,.int .i64 q.y,.int .i64 q.rise,.bool q.held,  .int .i64 (pm : Nat),.int .i64 q.fin] rfl rfl 55 _ hk8 hi rfl hone ?_; intro w9 hS9 hg9) | fail)
  have f0:=hS9.cell 0;have f1:=hS9.cell 1;have f2:=hS9.cell 2;have f3:=hS9.cell 3;have f4:=hS9.cell 4;have f5:=hS9.cell 5;simp only [Q0,Q2,Q1] at f0 f1 f2 f3 f4 f5;refine bodyPost_ret (res_play _ w9 w.heap.size _ _ _ _ _ _ _ _ rfl rfl rfl f0 f1 f2 f3 f4 f5) rfl ?_;refine ⟨?_,hb8'.grown hg9 hb8'.size (fun k hk => by injection hk with hk; omega)⟩;rw [HPV.out,HQ.out,gsV_pm HPM.out,← HQQ.out,← HD.out,HZ.out.2,HZ.out.1];rfl
 ·have hpos : 0 < L.length:=by omega
  have d0 : ((L.length : Int) == 0) = false:=by rw [beq_eq_false_iff_ne]; omega
  have HQ : Hid (lastG L (gs0 sx sy) = L[L.length - 1]):=Lib.hid (lastG_at hpos);have HQM : Hid (L[L.length - 1].mask < 1024):=Lib.hid (HOK.out _ (List.getElem_mem _)).m;obtain ⟨gb,hA,hgb,hgb2,hcell,_⟩:=ownBlk hown7 hpos;subst hA;obtain ⟨l0,l1,l2,l3,l4,l5⟩:=gss_at L (L.length - 1) (by omega);have c0:=hcell _ _ l0;have c1:=hcell _ _ l1;have c2:=hcell _ _ l2;have c3:=hcell _ _ l3;have c4:=hcell _ _ l4;have c5:=hcell _ _ l5;clear l0 l1 l2 l3 l4 l5 hcell hown7 h0 hgb hgb2;generalize L[L.length - 1] = q at *;have hll : L.length ≤ 200000:=HLL.out
  have w1 : IntKind.i64.wrap ((L.length : Int) - 1) = ((L.length - 1 : Nat) : Int):=by rw [IntWalk.i64_in _ ⟨by omega,by omega⟩]; omega
  go_wp2_with fail;refine (body_any q HQM.out w7).mono ?_;rintro e w10 ⟨rfl,hb9⟩;clear c0 c1 c2 c3 c4 c5 w1 d0;have hk8:=hk7.below hb9;have hb8':=below_up hb8 (hb9.mono (Nat.le_refl _));clear hk7 hb8 hb9;simp only [gsV,bodyG]
  obtain ⟨pm,hpm⟩ : ∃ pm,pm = popN q.mask:=⟨_,rfl⟩
  rw [← hpm];have HPM:=Lib.hid hpm;clear hpm
  have hi : (Tryz.prog.info? 55).map (·.size) = some 6:=by kernel_rfl
  have hone:=one6 q.x q.y q.rise (pm : Nat) q.fin q.held
  go_wp2_with (first | (refine wpList_storeRow rfl 55 _ _ rfl w.heap.size #[.int .i64 q.x,.int .i64 q.y,.int .i64 q.rise,.bool q.held,  .int .i64 (pm : Nat),.int .i64 q.fin] rfl rfl 55 _ hk8 hi rfl hone ?_; intro w9 hS9 hg9) | fail)
  have f0:=hS9.cell 0;have f1:=hS9.cell 1;have f2:=hS9.cell 2;have f3:=hS9.cell 3;have f4:=hS9.cell 4;have f5:=hS9.cell 5;simp only [Q0,Q2,Q1] at f0 f1 f2 f3 f4 f5;refine bodyPost_ret (res_play _ w9 w.heap.size _ _ _ _ _ _ _ _ rfl rfl rfl f0 f1 f2 f3 f4 f5) rfl ?_;refine ⟨?_,hb8'.grown hg9 hb8'.size (fun k hk => by injection hk with hk; omega)⟩;rw [HPV.out,HQ.out,gsV_pm HPM.out,← HD.out];rfl
end Go.Proofs.YtkchacgkjdeiaaaGreatDoor
/- What holds of neighbours in a trace, plain. -/
namespace Go.Proofs.YtkchacgkjdeiaaaGreatDoor
open Go.RowKit

section
variable {rows : List (List UInt8)} {W : Nat}
end
end Go.Proofs.YtkchacgkjdeiaaaGreatDoor
