/- Texts of this seat, laid together: GmX. -/
import Derived.Lib.Bytealg
import Derived.StillTailTactics
import Derived.Test.YtkchacgkjdeiaaaGreatDoorBf10
import Derived.Test.YtkchacgkjdeiaaaGreatDoorBf04
import Derived.Test.YtkchacgkjdeiaaaGreatDoorBf06
/- The walks of newGame, begin and begun. -/
namespace Go.Proofs.YtkchacgkjdeiaaaGreatDoor
set_option linter.unusedVariables false
set_option linter.unusedSimpArgs false
open Go.RowKit Go.Maps

theorem ite_iff {α : Type} {p q : Prop} [Decidable p] [Decidable q] {a b : α} (h : p ↔ q) : (if p then a else b) = if q then a else b:=by
 by_cases hp : p
 ·rw [if_pos hp,if_pos (h.1 hp)]
 ·rw [if_neg hp,if_neg (fun hq => hp (h.2 hq))]
theorem i64_smG {x : Int} (h : -1000000000 ≤ x) (h' : x ≤ 1000000000) : I64 x:=by unfold I64; omega
theorem shl_small (n : Nat) (hn : n < 10) : IntKind.i64.wrap ((2 : Int) ^ n) = (2 : Int) ^ n:=by
 have : ∀ k : Fin 10,IntKind.i64.wrap ((2 : Int) ^ k.val) = (2 : Int) ^ k.val:=by decide
 exact this ⟨n,hn⟩
theorem shl_I64 (n : Nat) (hn : n < 10) : I64 ((2 : Int) ^ n):=by
 have : ∀ k : Fin 10,(0 : Int) ≤ (2 : Int) ^ k.val ∧ (2 : Int) ^ k.val ≤ 1024:=by decide
 have:=this ⟨n,hn⟩;exact i64_smG (by simp only at this; omega) (by simp only at this; omega)
def coinF (rows : List (List UInt8)) (W X Y : Nat) : Int → Int → Option Lit:=fun a b => if (b < Y ∨ b = Y ∧ a < X) ∧ cellF rows W a b = 111 then some (.int .i64 (bitF rows W a b)) else none
section
variable {rows : List (List UInt8)} {W X Y : Nat}
theorem coinF_no (h : cellF rows W X Y ≠ 111) : coinF rows W X Y = coinF rows W (X + 1) Y:=by
 funext a b
 unfold coinF
 by_cases e : a = X ∧ b = Y
 ·obtain ⟨rfl,rfl⟩:=e
  rw [if_neg (fun hh => h hh.2),if_neg (fun hh => h hh.2)]
 ·have : (b < (Y : Int) ∨ b = Y ∧ a < (X : Int)) ↔ (b < (Y : Int) ∨ b = Y ∧ a < ((X + 1 : Nat) : Int)):=by omega
  exact ite_iff (and_congr this Iff.rfl)
theorem coinF_yes (h : cellF rows W X Y = 111) : putP (coinF rows W X Y) X Y (.int .i64 ((2 : Int) ^ cN 111 rows X Y)) = coinF rows W (X + 1) Y:=by
 funext a b
 unfold putP coinF
 by_cases e : a = X ∧ b = Y
 ·obtain ⟨rfl,rfl⟩:=e
  rw [if_pos ⟨rfl,rfl⟩,if_pos ⟨by omega,h⟩];unfold bitF;rw [if_pos h]
  simp
 ·rw [if_neg e]
  have : (b < (Y : Int) ∨ b = Y ∧ a < (X : Int)) ↔ (b < (Y : Int) ∨ b = Y ∧ a < ((X + 1 : Nat) : Int)):=by omega
  exact ite_iff (and_congr this Iff.rfl)
theorem coinF_at : coinF rows W X Y X Y = none:=by
 unfold coinF; rw [if_neg (fun h => by omega)]
theorem coinF_row (hY : Y < rows.length) : coinF rows W W Y = coinF rows W 0 (Y + 1):=by
 funext a b
 unfold coinF
 by_cases h : cellF rows W a b = 111
 ·have : (b < (Y : Int) ∨ b = Y ∧ a < (W : Int)) ↔ (b < ((Y + 1 : Nat) : Int) ∨ b = ((Y + 1 : Nat) : Int) ∧ a < ((0 : Nat) : Int)):=by
   rcases cellF_where (rows:=rows) (W:=W) (x:=a) (y:=b) (by rw [h]; decide) with h1 | h1
   ·rw [cellF_low h1] at h; cases h
   ·omega
  exact ite_iff (and_congr this Iff.rfl)
 ·rw [if_neg (fun hh => h hh.2),if_neg (fun hh => h hh.2)]
theorem coinF_0 : coinF rows W 0 0 = fun _ _ => none:=by
 funext a b
 unfold coinF;refine if_neg (fun h => ?_);rcases cellF_where (rows:=rows) (W:=W) (x:=a) (y:=b) (by rw [h.2]; decide) with h1 | h1
 ·have:=h.2; rw [cellF_low h1] at this; cases this
 ·omega
end
def StU (rows : List (List UInt8)) (W X Y : Nat) (sx sy : Int) : Prop:=(cN 115 rows X Y = 0 ∧ sx = 0 ∧ sy = 0) ∨ cellF rows W sx sy = 115
structure GmI (w : World) (p : Nat) (A : Option Addr) (c : Nat) (rows : List (List UInt8)) (W : Nat) (sx sy : Int) (mb : Nat) : Prop where
  blk : Blk w p 169 #[.slice A rows.length c, .int .i64 sx, .int .i64 sy, .map (some mb)]
  map : MapP 72 3 w mb (cN 111 rows 0 rows.length) (coinF rows W 0 rows.length)
theorem GmI.below {w w' : World} {p : Nat} {A : Option Addr} {c : Nat} {rows : List (List UInt8)} {W : Nat} {sx sy : Int} {mb : Nat} (h : GmI w p A c rows W sx sy mb) (hb : Below w.heap.size w w') : GmI w' p A c rows W sx sy mb:=⟨h.blk.below hb,h.map.below hb⟩
set_option maxHeartbeats 2000000 in
set_option maxRecDepth 100000 in
theorem newGame_any (lo : Nat) (A : Option Addr) (c : Nat) (rows : List (List UInt8)) (W : Nat) (w : World) (hr : Row w lo 1 A rows.length (strs rows)) (hL : Lv rows W) :
  Calls Tryz.prog 35 #[.slice A rows.length c] w fun e w' => ∃ p sx sy mb,e = .returned (.pointer (some ⟨p,0,none⟩)) ∧ GmI w' p A c rows W sx sy mb ∧ cellF rows W sx sy = 115 ∧ Below w.heap.size w w':=by
 obtain ⟨b,off,rfl,_,hbs,hcell⟩:=row0_at' hr hL.pos;have HC:=Lib.hid hcell;have h60:=hL.le;have HL:=Lib.hid hL;clear hcell hr hL;have hmm:=@run_makeMap Tryz.prog
 go_enter Tryz.func35,Tryz.ntmps35
 go_wp2_with fail;clear hmm
 go_loopw [13] (fun i wr => ∃ (Y : Nat) (sx sy : Int),Y ≤ rows.length ∧ i = .int .i64 Y ∧ Blk wr (w.heap.size + 1) 169 #[.slice (some ⟨b,off,none⟩) rows.length c,.int .i64 sx,.int .i64 sy,.map (some w.heap.size)] ∧ MapP 72 3 wr w.heap.size (cN 111 rows 0 Y) (coinF rows W 0 Y) ∧ Hid (StU rows W 0 Y sx sy) ∧ Below w.heap.size w wr) (fun i _ => rows.length - (intOf i).toNat)
 case atStart => exact ⟨0,0,0,Nat.zero_le _,rfl,by have h:=Blk.new (w.alloc (.map #[] 0)) 169 #[.slice (some ⟨b,off,none⟩) rows.length c,.int .i64 0,.int .i64 0,.map (some w.heap.size)]; rw [show (w.alloc (.map #[] 0)).heap.size = w.heap.size + 1 by simp] at h; exact h,by rw [cN_zero,coinF_0]; exact (MapP.made _ _ w).alloc _,Lib.hid (.inl ⟨cN_zero _ _,rfl,rfl⟩),((Below.refl _ w).alloc (Nat.le_refl _) _).alloc (by simp) _⟩
 case round =>
  obtain ⟨Y,sx,sy,hY,rfl,hB,hM,HS,hb1⟩:=hrel
  by_cases hYn : Y < rows.length
  ·have cY:=HC.out Y hYn
   have hY' : (Y : Int) < (rows.length : Int):=by omega
   have HWY : Hid (rows[Y].length = W):=Lib.hid (HL.out.wide _ (List.getElem_mem hYn));have hW60:=HL.out.W60;have c1:=(hb1.cell (p:=⟨b,off + Y,none⟩) (by exact hbs)).trans cY;unfold encStr at c1;clear cY;go_wp2_with fail
   go_loopw [20] (fun i wr => ∃ (X : Nat) (sx sy : Int),X ≤ rows[Y].length ∧ i = .int .i64 X ∧ Blk wr (w.heap.size + 1) 169 #[.slice (some ⟨b,off,none⟩) rows.length c,.int .i64 sx,.int .i64 sy,.map (some w.heap.size)] ∧ MapP 72 3 wr w.heap.size (cN 111 rows X Y) (coinF rows W X Y) ∧ Hid (StU rows W X Y sx sy) ∧ Below w.heap.size w wr) (fun i _ => rows[Y].length - (intOf i).toNat)
   case atStart => exact ⟨0,sx,sy,Nat.zero_le _,rfl,hB,hM,HS,hb1⟩
   case round =>
    clear hB hM HS hb1 c1;obtain ⟨X,tx,ty,hX,rfl,hB,hM,HS,hb1⟩:=hrel
    by_cases hXn : X < rows[Y].length
    ·have hX' : (X : Int) < (rows[Y].length : Int):=by omega
     have hcl:=cellF_in (W:=W) hYn (by have:=HWY.out; omega) hXn;have hsl:=cN_step (c:=115) hYn hXn;have hcl1:=cN_step (c:=111) hYn hXn;have hlt:=cN_lt (c:=111) hYn hXn;have hfew:=HL.out.few;have hbw : b < w.heap.size:=hbs;have y0:=hB.cell 0;have y3:=hB.cell 3;have z1:=hB.thaw 1;have z2:=hB.thaw 2;simp only [Q0,Q2,Q1] at y0 y3
     have hXY : X ≤ 60 ∧ Y ≤ 60:=by have:=HWY.out; omega
     generalize hrr : rows[Y] = r at *
     have hmz : X < (⟨r.toArray⟩ : ByteArray).size:=by show X < r.toArray.size; rw [List.size_toArray]; exact hXn
     have hbx:=ba_in r hXn hmz;generalize huu : r[X] = u at *;clear hrr huu
     by_cases q1 : u = 115
     ·subst q1
      have hno : cellF rows W X Y ≠ 111:=by rw [hcl]; decide
      have HCO:=Lib.hid (coinF_no hno);have HN1 : Hid (cN 111 rows (X + 1) Y = cN 111 rows X Y):=Lib.hid (by rw [hcl1]; rfl);have HST : Hid (StU rows W (X + 1) Y X Y):=Lib.hid (.inr (by rw [hcl]; rfl));have hB1:=hB.poke 1 (.int .i64 X);have v1:=hB1.cell 2;have v2:=hB1.thaw 2;have y1:=hB.cell 1
      simp at v1 y1
      clear hcl hsl hcl1 hno hlt hB1;go_wp2_with fail;go_roundw
      case rel => exact ⟨X + 1,X,Y,by omega,by go_num,by have h:=(hB.poke 1 (.int .i64 X)).poke 2 (.int .i64 Y); simpa using h,by rw [HN1.out,← HCO.out]; exact hM.kept (grown_set (grown_set (World.grownBy.refl wr (some (w.heap.size + 1))) 1 _) 2 _) (by simp),HST,(hb1.setCell (by show w.heap.size ≤ w.heap.size + 1; omega) _).setCell (by show w.heap.size ≤ w.heap.size + 1; omega) _⟩
      case measure => simp [intOf]; omega
     have p1 : ((u.toNat : Int) == 115) = false:=beq_eq_false_iff_ne.2 (fun e => q1 (UInt8.toNat_inj.1 (by simpa using (show u.toNat = 115 by omega))))
     have HS1 : Hid (StU rows W (X + 1) Y tx ty):=Lib.hid (by
      rcases HS.out with ⟨h1,h2⟩ | h
      ·exact .inl ⟨by rw [hsl,if_neg q1,h1],h2⟩
      ·exact .inr h)
     by_cases q2 : u = 111
     ·subst q2
      have hyes : cellF rows W X Y = 111:=by rw [hcl]; rfl
      have HCO:=Lib.hid (coinF_yes hyes);have hnone : coinF rows W X Y X Y = none:=coinF_at;have HN1 : Hid (cN 111 rows (X + 1) Y = cN 111 rows X Y + 1):=Lib.hid (by rw [hcl1]; rfl);have hlt:=hlt rfl;generalize cN 111 rows X Y = n at *;generalize coinF rows W X Y = F at *;clear hcl hsl hcl1 hyes;have hlen : (Builtin.len_ #[167] 3 #[.map (some w.heap.size)]).run Tryz.prog wr.drew = .ok (.int .i64 n) wr.drew:=hM.drew.len _;have hM':=hM.drew;have kx : I64 (X : Int):=i64_smG (by omega) (by omega);have ky : I64 (Y : Int):=i64_smG (by omega) (by omega)
      have hn10 : n < 10:=by omega
      have hw2:=shl_small n hn10;have kn:=shl_I64 n hn10;go_wp2_with fail
      go_still_tail 13,(by kernel_rfl)
      clear hlen
      go_wp2_with (first | (at_mapUpdate; refine wpList_putS rfl _ _ _ rfl rfl hM' (by unfold maxLen; omega) X Y ((2 : Int) ^ n) kx ky kn hnone rfl rfl ?_; intro w1 hM1 hg1) | fail)
      go_roundw
      case rel => exact ⟨X + 1,tx,ty,by omega,by go_num,(hg1.block (w.heap.size + 1) hB.lt (by simp)).trans hB,by rw [HN1.out,← HCO.out]; exact hM1,HS1,hb1.drew.grown hg1 (Nat.le_trans hb1.size (Nat.le_refl _)) (fun k hk => by injection hk with hk; omega)⟩
      case measure => simp [intOf]; omega
     ·have p2 : ((u.toNat : Int) == 111) = false:=beq_eq_false_iff_ne.2 (fun e => q2 (UInt8.toNat_inj.1 (by simpa using (show u.toNat = 111 by omega))))
      have hno : cellF rows W X Y ≠ 111:=by rw [hcl]; intro e; exact q2 (UInt8.toNat_inj.1 (by simpa using (show u.toNat = 111 by omega)))
      have HCO:=Lib.hid (coinF_no hno);have HN1 : Hid (cN 111 rows (X + 1) Y = cN 111 rows X Y):=Lib.hid (by rw [hcl1,if_neg q2]; rfl);clear hcl hsl hcl1 hno hlt q1 q2;go_wp2_with fail;go_roundw
      case rel => exact ⟨X + 1,tx,ty,by omega,by go_num,hB,by rw [HN1.out,← HCO.out]; exact hM,HS1,hb1⟩
      case measure => simp [intOf]; omega
    ·have hXe : X = rows[Y].length:=by omega
     subst hXe;have HN1:=Lib.hid (cN_row (c:=111) hYn);have HN2:=Lib.hid (cN_row (c:=115) hYn);have HCO:=Lib.hid (coinF_row (W:=W) hYn);go_wp2_with fail;go_roundw
     case rel => exact ⟨Y + 1,tx,ty,by omega,by go_num,hB,by rw [← HN1.out,← HCO.out]; rw [HWY.out] at hM ⊢; exact hM,Lib.hid (by have:=HS.out; unfold StU at this ⊢; rw [← HN2.out]; exact this),hb1⟩
     case measure => simp [intOf]; omega
  ·have hYe : Y = rows.length:=by omega
   subst hYe
   have HSS : Hid (cellF rows W sx sy = 115):=Lib.hid (by
    rcases HS.out with ⟨h1,_⟩ | h
    ·rw [cN_end,HL.out.one] at h1; cases h1
    ·exact h)
   go_wp2_with fail;go_ret;exact ⟨_,sx,sy,_,rfl,⟨hB,hM⟩,HSS.out,hb1⟩
structure GmR (w : World) (p : Nat) (A : Option Addr) (c : Nat) (rows : List (List UInt8)) (W : Nat) (s : GS) (mb n : Nat) : Prop where
  blk : Blk w p 94 #[.slice A rows.length c, .int .i64 s.x, .int .i64 s.y, .int .i64 s.rise, .bool s.held, .int .i64 (popN s.mask), .int .i64 s.fin, .map (some mb)]
  map : MapP 172 4 w mb n (fun a b => if cellF rows W a b = 111 ∧ s.mask &&& bitF rows W a b ≠ 0 then some (.bool true) else none)
  ne : p ≠ mb
theorem GmR.below {w w' : World} {p : Nat} {A : Option Addr} {c : Nat} {rows : List (List UInt8)} {W : Nat} {s : GS} {mb n : Nat} (h : GmR w p A c rows W s mb n) (hb : Below w.heap.size w w') : GmR w' p A c rows W s mb n:=⟨h.blk.below hb,h.map.below hb,h.ne⟩
def gs0 (sx sy : Int) : GS:=⟨sx,sy,0,false,0,0⟩
set_option maxHeartbeats 2000000 in
set_option maxRecDepth 100000 in
theorem beginG_any (p : Nat) (A : Option Addr) (c : Nat) (rows : List (List UInt8)) (W : Nat) (sx sy : Int) (mb : Nat) (w : World) (hg : GmI w p A c rows W sx sy mb) :
  Calls Tryz.prog 59 #[.pointer (some ⟨p,0,none⟩)] w fun e w' => e = .returned (.agg #[.int .i64 sx,.int .i64 sy,.int .i64 0,.bool false,.int .i64 0,.int .i64 0]) ∧ Below w.heap.size w w':=by
 have y1:=(hg.blk.alloc (.cells #[.int .i64 0,.int .i64 0,.int .i64 0,.bool false,.int .i64 0,.int .i64 0] 74)).cell 1;have y2:=(hg.blk.alloc (.cells #[.int .i64 0,.int .i64 0,.int .i64 0,.bool false,.int .i64 0,.int .i64 0] 74)).cell 2;simp only [Q0,Q2,Q1] at y1 y2;clear hg
 go_enter Tryz.func59,Tryz.ntmps59
 go_wp2_with fail
 go_returns
 exact ⟨rfl,(Below.refl _ w).alloc (Nat.le_refl _) _⟩
end Go.Proofs.YtkchacgkjdeiaaaGreatDoor
