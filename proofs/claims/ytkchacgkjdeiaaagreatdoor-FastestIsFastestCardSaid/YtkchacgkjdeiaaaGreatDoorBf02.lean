/- Texts of this seat, laid together: GmS GfA GfB GmQ. -/
import Derived.Lib.BitFns
import Derived.Test.YtkchacgkjdeiaaaGreatDoorBf01
import Derived.Test.YtkchacgkjdeiaaaGreatDoorBf00
/- How a game goes: plain mathematics; no program of Go in sight. -/
set_option linter.unusedVariables false
set_option linter.unusedSimpArgs false
namespace Go.Proofs.YtkchacgkjdeiaaaGreatDoor

theorem getD_gm {α : Type} {l : List α} {k : Nat} {d : α} (h : k < l.length) : l.getD k d = l[k]:=by simp [List.getD,h]
structure Lv (rows : List (List UInt8)) (W : Nat) : Prop where
  pos : 0 < rows.length
  le : rows.length ≤ 60
  wide : ∀ r ∈ rows, r.length = W
  W0 : 0 < W
  W60 : W ≤ 60
  one : cntG 115 rows = 1
  few : cntG 111 rows ≤ 10
theorem Lv.of {rows : List (List UInt8)} (h : glvF rows = 0) : Lv rows (rows.getD 0 []).length:=by
 unfold glvF at h
 split at h
 ·cases h
 split at h
 ·cases h
 rename_i h1 h2
 split at h
 ·rename_i h3; exact absurd h h3
 rename_i h3;have h3 : scanE (rows.getD 0 []).length rows = 0:=Decidable.not_not.1 h3
 split at h
 ·cases h
 rename_i h4
 split at h
 ·cases h
 rename_i h5
 have h0 : 0 < rows.length:=by omega
 have hr:=fun r hr => rowE_0 (scanE_0 h3 r hr)
 have hm : rows.getD 0 [] ∈ rows:=by rw [getD_gm h0]; exact List.getElem_mem _
 exact ⟨h0,by omega,fun r h => (hr r h).2.1,(hr _ hm).2.2.1,(hr _ hm).1,Decidable.not_not.1 h4,by omega⟩
def cellF (rows : List (List UInt8)) (W : Nat) (x y : Int) : Int :=
 if (rows.length : Int) ≤ y then 94 else if y < 0 ∨ x < 0 ∨ (W : Int) ≤ x then 35 else (((rows.getD y.toNat []).getD x.toNat 0).toNat : Int)
section
variable {rows : List (List UInt8)} {W : Nat}
theorem cellF_low {x y : Int} (h : (rows.length : Int) ≤ y) : cellF rows W x y = 94:=by unfold cellF; rw [if_pos h]
theorem cellF_out {x y : Int} (h : y < rows.length) (h' : y < 0 ∨ x < 0 ∨ (W : Int) ≤ x) : cellF rows W x y = 35:=by unfold cellF; rw [if_neg (by omega),if_pos h']
theorem cellF_in {x y : Nat} (hy : y < rows.length) (hx : x < W) (hx' : x < rows[y].length) : cellF rows W (x : Int) (y : Int) = ((rows[y][x].toNat : Nat) : Int):=by
 unfold cellF;rw [if_neg (by omega),if_neg (by omega)]
 simp [hy,hx']
theorem cellF_where {x y : Int} (h : cellF rows W x y ≠ 35) : (rows.length : Int) ≤ y ∨ 0 ≤ y ∧ y < rows.length ∧ 0 ≤ x ∧ x < W:=by
 by_cases h1 : (rows.length : Int) ≤ y
 ·exact .inl h1
 ·by_cases h2 : y < 0 ∨ x < 0 ∨ (W : Int) ≤ x
  ·exact absurd (cellF_out (by omega) h2) h
  ·right; omega
end
def cN (c : UInt8) (rows : List (List UInt8)) (X Y : Nat) : Nat:=cntG c (rows.take Y) + ((rows.getD Y []).take X).count c
section
variable {rows : List (List UInt8)} {W : Nat} {c : UInt8}
theorem cN_zero (c : UInt8) (rows : List (List UInt8)) : cN c rows 0 0 = 0:=by simp [cN,cntG]
theorem cN_step {X Y : Nat} (hY : Y < rows.length) (hX : X < rows[Y].length) : cN c rows (X + 1) Y = cN c rows X Y + if rows[Y][X] = c then 1 else 0:=by
 unfold cN;rw [getD_gm hY,count_take hX]; omega
theorem cN_row {Y : Nat} (hY : Y < rows.length) : cN c rows rows[Y].length Y = cN c rows 0 (Y + 1):=by
 unfold cN;rw [getD_gm hY,cntG_take hY]
 simp
theorem cN_end : cN c rows 0 rows.length = cntG c rows:=by
 unfold cN; rw [List.take_length]; simp
theorem cN_mono1 {X X' Y : Nat} (h : X ≤ X') : cN c rows X Y ≤ cN c rows X' Y:=by
 unfold cN;have:=(List.take_sublist_take_left (l:=rows.getD Y []) h).count_le c;omega
theorem cN_rows0 {X Y : Nat} (hY : Y < rows.length) : cN c rows X Y ≤ cN c rows 0 (Y + 1):=by
 rw [← cN_row hY];rcases Nat.le_total X rows[Y].length with h | h
 ·exact cN_mono1 h
 ·unfold cN
  rw [getD_gm hY,List.take_of_length_le h,List.take_length]; exact Nat.le_refl _
theorem cN_up {Y : Nat} : ∀ d,Y + d ≤ rows.length → cN c rows 0 Y ≤ cN c rows 0 (Y + d)
 | 0,_ => Nat.le_refl _
 | d + 1,h => Nat.le_trans (cN_up d (by omega)) (cN_rows0 (show Y + d < rows.length by omega))
theorem cN_le {X Y : Nat} (hY : Y < rows.length) : cN c rows X Y ≤ cntG c rows:=by
 refine Nat.le_trans (cN_rows0 hY) ?_;rw [← cN_end];have:=cN_up (c:=c) (rows:=rows) (Y:=Y + 1) (rows.length - (Y + 1)) (by omega)
 rwa [show Y + 1 + (rows.length - (Y + 1)) = rows.length by omega] at this
theorem cN_before {X Y X' Y' : Nat} (hY' : Y' < rows.length) (h : Y < Y' ∨ Y = Y' ∧ X ≤ X') : cN c rows X Y ≤ cN c rows X' Y':=by
 rcases h with h | ⟨rfl,h⟩
 ·refine Nat.le_trans (cN_rows0 (by omega)) (Nat.le_trans ?_ (cN_mono1 (Nat.zero_le X')))
  have:=cN_up (c:=c) (rows:=rows) (Y:=Y + 1) (Y' - (Y + 1)) (by omega)
  rwa [show Y + 1 + (Y' - (Y + 1)) = Y' by omega] at this
 ·exact cN_mono1 h
theorem cN_lt {X Y : Nat} (hY : Y < rows.length) (hX : X < rows[Y].length) (hc : rows[Y][X] = c) : cN c rows X Y < cntG c rows:=by
 have h:=cN_step (c:=c) hY hX;rw [if_pos hc] at h;have:=cN_le (c:=c) (X:=X + 1) hY;omega
theorem cN_apart {X Y X' Y' : Nat} (hY : Y < rows.length) (hX : X < rows[Y].length) (hc : rows[Y][X] = c) (hY' : Y' < rows.length) (h : Y < Y' ∨ Y = Y' ∧ X < X') : cN c rows X Y < cN c rows X' Y':=by
 have h1:=cN_step (c:=c) hY hX;rw [if_pos hc] at h1;have:=cN_before (c:=c) (X:=X + 1) (X':=X') hY' (h.imp id (fun h => ⟨h.1,h.2⟩));omega
theorem Lv.cell_nat (hL : Lv rows W) {x y : Int} {v : Nat} (h : cellF rows W x y = v) (hv : v ≠ 94) (hv' : v ≠ 35) : ∃ (X Y : Nat) (hY : Y < rows.length) (hX : X < rows[Y].length),x = X ∧ y = Y ∧ X < W ∧ rows[Y][X].toNat = v:=by
 rcases cellF_where (rows:=rows) (W:=W) (x:=x) (y:=y) (by omega) with h1 | ⟨h1,h2,h3,h4⟩
 ·rw [cellF_low h1] at h; omega
 ·obtain ⟨X,rfl⟩:=Int.eq_ofNat_of_zero_le h3
  obtain ⟨Y,rfl⟩:=Int.eq_ofNat_of_zero_le h1
  have hY : Y < rows.length:=by omega
  have hX : X < rows[Y].length:=by rw [hL.wide _ (List.getElem_mem hY)]; omega
  rw [cellF_in hY (by omega) hX] at h;exact ⟨X,Y,hY,hX,rfl,rfl,by omega,by omega⟩
theorem Lv.start_one (hL : Lv rows W) {x y x' y' : Int} (h : cellF rows W x y = 115) (h' : cellF rows W x' y' = 115) : x = x' ∧ y = y':=by
 obtain ⟨X,Y,hY,hX,rfl,rfl,_,e⟩:=hL.cell_nat (v:=115) h (by decide) (by decide);obtain ⟨X',Y',hY',hX',rfl,rfl,_,e'⟩:=hL.cell_nat (v:=115) h' (by decide) (by decide)
 have e1 : rows[Y][X] = 115:=by rw [← UInt8.toNat_inj]; exact e
 have e2 : rows[Y'][X'] = 115:=by rw [← UInt8.toNat_inj]; exact e'
 have l1:=cN_lt hY hX e1;have l2:=cN_lt hY' hX' e2;rw [hL.one] at l1 l2;rcases Nat.lt_trichotomy Y Y' with h1 | h1 | h1
 ·have:=cN_apart hY hX e1 hY' (X':=X') (.inl h1); omega
 ·subst h1
  rcases Nat.lt_trichotomy X X' with h2 | h2 | h2
  ·have:=cN_apart hY hX e1 hY' (X':=X') (.inr ⟨rfl,h2⟩); omega
  ·subst h2; exact ⟨rfl,rfl⟩
  ·have:=cN_apart hY' hX' e2 hY (X':=X) (.inr ⟨rfl,h2⟩); omega
 ·have:=cN_apart hY' hX' e2 hY (X':=X) (.inl h1); omega
end
def bitF (rows : List (List UInt8)) (W : Nat) (x y : Int) : Nat:=if cellF rows W x y = 111 then 2 ^ cN 111 rows x.toNat y.toNat else 0
structure GS where
  x : Int
  y : Int
  rise : Int
  held : Bool
  mask : Nat
  fin : Int
def mvF (h x : Int) : Int:=if h % 4 = 1 then x - 1 else if h % 4 = 2 then x + 1 else x
def jpF (h : Int) : Bool:=decide (16 ≤ h % 32)
def grF (rows : List (List UInt8)) (W : Nat) (x y : Int) : Bool:=decide (cellF rows W x (y + 1) = 35)
def sideF (rows : List (List UInt8)) (W : Nat) (h : Int) (s : GS) : GS:=if cellF rows W (mvF h s.x) s.y = 35 then s else { s with x:=mvF h s.x }
def jumpF (rows : List (List UInt8)) (W : Nat) (h : Int) (s : GS) : GS:={ s with rise:=if jpF h && !s.held && grF rows W s.x s.y then 3 else s.rise,held:=jpF h }
def vertF (rows : List (List UInt8)) (W : Nat) (s : GS) : GS :=
 if 0 < s.rise then if cellF rows W s.x (s.y - 1) = 35 then { s with rise:=0 } else { s with y:=s.y - 1,rise:=s.rise - 1 }
 else if grF rows W s.x s.y then s else { s with y:=s.y + 1 }
def endF (rows : List (List UInt8)) (W : Nat) (s : GS) : GS:={ s with mask:=s.mask ||| bitF rows W s.x s.y,fin:=if cellF rows W s.x s.y = 94 then 2 else if cellF rows W s.x s.y = 120 then 1 else s.fin }
def stepF (rows : List (List UInt8)) (W : Nat) (h : Int) (s : GS) : GS:=endF rows W (vertF rows W (jumpF rows W h (sideF rows W h s)))
structure GOk (rows : List (List UInt8)) (W : Nat) (s : GS) : Prop where
  x0 : 0 ≤ s.x
  xW : s.x < W
  y0 : 0 ≤ s.y
  yH : s.y ≤ rows.length
  yl : s.fin = 0 → s.y < rows.length
  r0 : 0 ≤ s.rise
  r3 : s.rise ≤ 3
  m : s.mask < 1024
  f0 : 0 ≤ s.fin
  f2 : s.fin ≤ 2
section
variable {rows : List (List UInt8)} {W : Nat} {s : GS} {h : Int}
theorem GOk.side (hs : GOk rows W s) (hf : s.fin = 0) : GOk rows W (sideF rows W h s):=by
 unfold sideF
 split
 ·exact hs
 ·rename_i hc
  have:=hs.yl hf;rcases cellF_where hc with h1 | ⟨h1,h2,h3,h4⟩
  ·omega
  ·exact ⟨h3,h4,hs.y0,hs.yH,hs.yl,hs.r0,hs.r3,hs.m,hs.f0,hs.f2⟩
theorem side_fin : (sideF rows W h s).fin = s.fin:=by unfold sideF; split <;> rfl
theorem GOk.jump (hs : GOk rows W s) : GOk rows W (jumpF rows W h s):=by
 unfold jumpF;refine ⟨hs.x0,hs.xW,hs.y0,hs.yH,hs.yl,?_,?_,hs.m,hs.f0,hs.f2⟩
 ·show 0 ≤ (if _ then (3 : Int) else s.rise)
  have:=hs.r0
  split <;> omega
 ·show (if _ then (3 : Int) else s.rise) ≤ 3
  have:=hs.r3
  split <;> omega
theorem jump_fin : (jumpF rows W h s).fin = s.fin:=rfl
theorem vert_fin : (vertF rows W s).fin = s.fin:=by
 unfold vertF
 split
 ·split <;> rfl
 ·split <;> rfl
theorem vert_mask : (vertF rows W s).mask = s.mask:=by
 unfold vertF
 split
 ·split <;> rfl
 ·split <;> rfl
theorem GOk.vert (hs : GOk rows W s) (hf : s.fin = 0) : 0 ≤ (vertF rows W s).x ∧ (vertF rows W s).x < W ∧ 0 ≤ (vertF rows W s).y ∧ (vertF rows W s).y ≤ rows.length ∧ 0 ≤ (vertF rows W s).rise ∧ (vertF rows W s).rise ≤ 3:=by
 have:=hs.yl hf;have:=hs.r0;have:=hs.r3;have:=hs.x0;have:=hs.xW;have:=hs.y0;unfold vertF
 split
 ·split
  ·refine ⟨?_,?_,?_,?_,?_,?_⟩ <;> simp only [] <;> omega
  ·rename_i hc
   rcases cellF_where hc with h1 | ⟨h1,h2,h3,h4⟩
   ·omega
   ·refine ⟨?_,?_,?_,?_,?_,?_⟩ <;> simp only [] <;> omega
 ·split
  ·refine ⟨?_,?_,?_,?_,?_,?_⟩ <;> omega
  ·refine ⟨?_,?_,?_,?_,?_,?_⟩ <;> simp only [] <;> omega
theorem Lv.bit (hL : Lv rows W) (x y : Int) : bitF rows W x y = 0 ∧ cellF rows W x y ≠ 111 ∨ ∃ k,k < 10 ∧ bitF rows W x y = 2 ^ k ∧ cellF rows W x y = 111:=by
 unfold bitF
 by_cases hc : cellF rows W x y = 111
 ·right
  rw [if_pos hc];obtain ⟨X,Y,hY,hX,rfl,rfl,_,e⟩:=hL.cell_nat (v:=111) hc (by decide) (by decide)
  have e1 : rows[Y][X] = 111:=by rw [← UInt8.toNat_inj]; exact e
  have:=cN_lt hY hX e1;have:=hL.few;exact ⟨_,by simp; omega,rfl,hc⟩
 ·left; rw [if_neg hc]; exact ⟨rfl,hc⟩
theorem Lv.bit_lt (hL : Lv rows W) (x y : Int) : bitF rows W x y < 1024:=by
 rcases hL.bit x y with ⟨h,_⟩ | ⟨k,hk,h,_⟩
 ·omega
 ·rw [h]
  exact Nat.lt_of_lt_of_le (Nat.pow_lt_pow_right (by decide) hk) (by decide)
theorem or_lt (a b : Nat) (ha : a < 1024) (hb : b < 1024) : a ||| b < 1024:=Nat.or_lt_two_pow (n:=10) ha hb
theorem GOk.step (hL : Lv rows W) (hs : GOk rows W s) (hf : s.fin = 0) : GOk rows W (stepF rows W h s):=by
 have h1:=(hs.side (h:=h) hf).jump (h:=h)
 have hf1 : (jumpF rows W h (sideF rows W h s)).fin = 0:=by rw [jump_fin,side_fin,hf]
 obtain ⟨v1,v2,v3,v4,v5,v6⟩:=h1.vert hf1
 have hm : (vertF rows W (jumpF rows W h (sideF rows W h s))).mask < 1024:=by rw [vert_mask]; exact h1.m
 have hfv : (vertF rows W (jumpF rows W h (sideF rows W h s))).fin = 0:=by rw [vert_fin,hf1]
 unfold stepF;generalize vertF rows W (jumpF rows W h (sideF rows W h s)) = t at *;unfold endF;refine ⟨v1,v2,v3,v4,?_,v5,v6,or_lt _ _ hm (hL.bit_lt _ _),?_,?_⟩
 ·intro hz
  by_cases h9 : (rows.length : Int) ≤ t.y
  ·have hz : (if cellF rows W t.x t.y = 94 then (2 : Int) else if cellF rows W t.x t.y = 120 then 1 else t.fin) = 0:=hz
   rw [if_pos (cellF_low h9)] at hz; cases hz
  ·show t.y < _; omega
 ·show 0 ≤ (if _ then (2 : Int) else if _ then 1 else t.fin)
  split
  ·decide
  ·split
   ·decide
   ·rw [hfv]; decide
 ·show (if _ then (2 : Int) else if _ then 1 else t.fin) ≤ 2
  split
  ·decide
  ·split
   ·decide
   ·rw [hfv]; decide
end
def popN (m : Nat) : Nat:=Lib.onesCount m
end Go.Proofs.YtkchacgkjdeiaaaGreatDoor
/- Searching a game's states in breadth, plain: the first input found is no longer than any other. -/
namespace Go.Proofs.YtkchacgkjdeiaaaGreatDoor

def triedL : List Int:=[0,1,2,16,17,18]
inductive RunG (nx : GS → Int → GS) (s0 : GS) : List Int → GS → Prop
  | nil : RunG nx s0 [] s0
  | snoc {p : List Int} {s : GS} (h : Int) : RunG nx s0 p s → s.fin = 0 → RunG nx s0 (p ++ [h]) (nx s h)
structure Bfs (nx : GS → Int → GS) (T : List Int) (s0 : GS) (P : List (GS × List Int)) (i c : Nat) (gl : Option (List Int)) : Prop where
  first : P[0]? = some (s0, [])
  nod : (P.map Prod.fst).Nodup
  run : ∀ (s : GS) (p : List Int), (s, p) ∈ P → RunG nx s0 p s ∧ s.fin = 0 ∧ ∀ h ∈ p, h ∈ T
  mono : ∀ (j k : Nat) (sj : GS) (pj : List Int) (sk : GS) (pk : List Int), j ≤ k → P[j]? = some (sj, pj) → P[k]? = some (sk, pk) → pj.length ≤ pk.length
  near : ∀ (k : Nat) (sk : GS) (pk : List Int) (si : GS) (pi : List Int), P[k]? = some (sk, pk) → P[i]? = some (si, pi) → pk.length ≤ pi.length + 1
  closed : ∀ (b : Nat) (sb : GS) (pb : List Int) (h : Int), (b < i ∨ b = i ∧ h ∈ T.take c) → P[b]? = some (sb, pb) → h ∈ T → (nx sb h).fin = 0 → ∃ p : List Int, (nx sb h, p) ∈ P ∧ p.length ≤ pb.length + 1
  goal1 : ∀ p : List Int, gl = some p → ∃ (b : Nat) (sb : GS) (pb : List Int) (h : Int), b ≤ i ∧ P[b]? = some (sb, pb) ∧ p = pb ++ [h] ∧ (nx sb h).fin = 1 ∧ h ∈ T
  goal2 : ∀ (b : Nat) (sb : GS) (pb : List Int) (h : Int), (b < i ∨ b = i ∧ h ∈ T.take c) → P[b]? = some (sb, pb) → h ∈ T → (nx sb h).fin = 1 → ∃ p : List Int, gl = some p ∧ p.length ≤ pb.length + 1
section
variable {nx : GS → Int → GS} {T : List Int} {s0 si : GS} {P : List (GS × List Int)} {i c : Nat} {gl : Option (List Int)} {pi : List Int}
theorem Bfs.start (h0 : s0.fin = 0) : Bfs nx T s0 [(s0,[])] 0 0 none:=by
 have key : ∀ (k : Nat) (s : GS) (p : List Int),([(s0,[])] : List (GS × List Int))[k]? = some (s,p) → k = 0 ∧ s = s0 ∧ p = []:=fun k s p h => by
  cases k with
  | zero => simp at h; exact ⟨rfl,h.1.symm,h.2⟩
  | succ k => simp at h
 refine ⟨rfl,by simp,fun s p h => ?_,fun j k sj pj sk pk _ h1 h2 => ?_,fun k sk pk si pi h1 h2 => ?_,fun b sb pb h hd => ?_,fun p h => (by cases h),fun b sb pb h hd => ?_⟩
 ·simp at h
  obtain ⟨rfl,rfl⟩:=h;exact ⟨.nil,h0,by simp⟩
 ·rw [(key _ _ _ h1).2.2,(key _ _ _ h2).2.2]; exact Nat.le_refl _
 ·rw [(key _ _ _ h1).2.2]; simp
 ·simp at hd
 ·simp at hd
theorem take_more {T : List Int} {c : Nat} {h x : Int} (hc : T[c]? = some h) (hx : x ∈ T.take (c + 1)) : x ∈ T.take c ∨ x = h:=by
 rw [List.take_add_one,hc,Option.toList_some,List.mem_append,List.mem_singleton] at hx;exact hx
theorem doneS {b i c : Nat} {h x : Int} {T : List Int} (hc : T[c]? = some h) (hd : b < i ∨ b = i ∧ x ∈ T.take (c + 1)) : (b < i ∨ b = i ∧ x ∈ T.take c) ∨ b = i ∧ x = h:=by
 rcases hd with hd | ⟨hd,hx⟩
 ·exact .inl (.inl hd)
 ·rcases take_more hc hx with hx | hx
  ·exact .inl (.inr ⟨hd,hx⟩)
  ·exact .inr ⟨hd,hx⟩
theorem Bfs.seen (H : Bfs nx T s0 P i c gl) {h : Int} (hc : T[c]? = some h) (hi : P[i]? = some (si,pi)) (hs : nx si h ∈ P.map Prod.fst) (hf : (nx si h).fin = 0) : Bfs nx T s0 P i (c + 1) gl:=by
 refine { H with closed:=fun b sb pb x hd hb hx hz => ?_,goal2:=fun b sb pb x hd hb hx hz => ?_ }
 ·rcases doneS hc hd with hd | ⟨rfl,rfl⟩
  ·exact H.closed b sb pb x hd hb hx hz
  ·rw [hi] at hb
   injection hb with hb;injection hb with e1 e2;subst e1 e2;obtain ⟨⟨s,p⟩,hm,e⟩:=List.mem_map.1 hs;simp only at e;subst e;obtain ⟨k,hk⟩:=List.mem_iff_getElem?.1 hm;exact ⟨p,hm,H.near _ _ _ _ _ hk hi⟩
 ·rcases doneS hc hd with hd | ⟨rfl,rfl⟩
  ·exact H.goal2 b sb pb x hd hb hx hz
  ·rw [hi] at hb
   injection hb with hb;injection hb with e1 e2;subst e1 e2;omega
theorem Bfs.push (H : Bfs nx T s0 P i c gl) {h : Int} (hc : T[c]? = some h) (hi : P[i]? = some (si,pi)) (hs : nx si h ∉ P.map Prod.fst) (hf : (nx si h).fin = 0) : Bfs nx T s0 (P ++ [(nx si h,pi ++ [h])]) i (c + 1) gl:=by
 have hil : i < P.length:=(List.getElem?_eq_some_iff.1 hi).1
 have old : ∀ (k : Nat) (s : GS) (p : List Int),(P ++ [(nx si h,pi ++ [h])])[k]? = some (s,p) → P[k]? = some (s,p) ∨ k = P.length ∧ s = nx si h ∧ p = pi ++ [h]:=fun k s p hk => by
  rcases Nat.lt_or_ge k P.length with hl | hl
  ·rw [List.getElem?_append_left hl] at hk; exact .inl hk
  ·rw [List.getElem?_append_right hl] at hk
   have hl2:=(List.getElem?_eq_some_iff.1 hk).1
   simp at hl2
   have : k = P.length:=by omega
   subst this
   simp at hk
   exact .inr ⟨rfl,hk.1.symm,hk.2.symm⟩
 have hi' : (P ++ [(nx si h,pi ++ [h])])[i]? = some (si,pi):=by rw [List.getElem?_append_left hil]; exact hi
 have hr:=H.run si pi (List.mem_of_getElem? hi);have hT : h ∈ T:=List.mem_of_getElem? hc
 have up : ∀ s p,(s,p) ∈ P → (s,p) ∈ P ++ [(nx si h,pi ++ [h])]:=fun s p hm => List.mem_append_left _ hm
 have same : ∀ b sb pb,b ≤ i → (P ++ [(nx si h,pi ++ [h])])[b]? = some (sb,pb) → P[b]? = some (sb,pb):=fun b sb pb hb h2 => by
  rwa [List.getElem?_append_left (by omega)] at h2
 refine ⟨by rw [List.getElem?_append_left (by omega)]; exact H.first,?_,fun s p hm => ?_,fun j k sj pj sk pk hjk h1 h2 => ?_,fun k sk pk s p h1 h2 => ?_,fun b sb pb x hd hb hx hz => ?_,fun p hp => ?_,fun b sb pb x hd hb hx hz => ?_⟩
 ·rw [List.map_append,List.nodup_append]
  exact ⟨H.nod,by simp,fun a ha b hb e => by simp at hb; subst hb; subst e; exact hs ha⟩
 ·rcases List.mem_append.1 hm with hm | hm
  ·exact H.run s p hm
  ·simp at hm
   obtain ⟨rfl,rfl⟩:=hm
   exact ⟨.snoc h hr.1 hr.2.1,hf,fun x hx => by
    rcases List.mem_append.1 hx with hx | hx
    ·exact hr.2.2 x hx
    ·rw [List.mem_singleton] at hx; subst hx; exact hT⟩
 ·rcases old _ _ _ h1 with h1 | ⟨rfl,rfl,rfl⟩
  ·rcases old _ _ _ h2 with h2 | ⟨rfl,rfl,rfl⟩
   ·exact H.mono _ _ _ _ _ _ hjk h1 h2
   ·have:=H.near _ _ _ _ _ h1 hi; simpa using this
  ·rcases old _ _ _ h2 with h2 | ⟨rfl,rfl,rfl⟩
   ·have:=(List.getElem?_eq_some_iff.1 h2).1; omega
   ·exact Nat.le_refl _
 ·rw [hi'] at h2
  injection h2 with h2;injection h2 with e1 e2;subst e1 e2;rcases old _ _ _ h1 with h1 | ⟨rfl,rfl,rfl⟩
  ·exact H.near _ _ _ _ _ h1 hi
  ·simp
 ·rcases doneS hc hd with hd | ⟨rfl,rfl⟩
  ·obtain ⟨p,h1,h2⟩:=H.closed b sb pb x hd (same b sb pb (by omega) hb) hx hz
   exact ⟨p,up _ _ h1,h2⟩
  ·rw [hi'] at hb
   injection hb with hb;injection hb with e1 e2;subst e1 e2;exact ⟨pi ++ [x],List.mem_append_right _ (by simp),by simp⟩
 ·obtain ⟨b,sb,pb,x,h1,h2,h3⟩:=H.goal1 p hp
  exact ⟨b,sb,pb,x,h1,by rw [List.getElem?_append_left (by omega)]; exact h2,h3⟩
 ·rcases doneS hc hd with hd | ⟨rfl,rfl⟩
  ·exact H.goal2 b sb pb x hd (same b sb pb (by omega) hb) hx hz
  ·rw [hi'] at hb
   injection hb with hb;injection hb with e1 e2;subst e1 e2;omega
theorem Bfs.dead (H : Bfs nx T s0 P i c gl) {h : Int} (hc : T[c]? = some h) (hi : P[i]? = some (si,pi)) (h0 : (nx si h).fin ≠ 0) (h1 : (nx si h).fin ≠ 1) : Bfs nx T s0 P i (c + 1) gl:=by
 refine { H with closed:=fun b sb pb x hd hb hx hz => ?_,goal2:=fun b sb pb x hd hb hx hz => ?_ }
 ·rcases doneS hc hd with hd | ⟨rfl,rfl⟩
  ·exact H.closed b sb pb x hd hb hx hz
  ·rw [hi] at hb
   injection hb with hb;injection hb with e1 e2;subst e1 e2;exact absurd hz h0
 ·rcases doneS hc hd with hd | ⟨rfl,rfl⟩
  ·exact H.goal2 b sb pb x hd hb hx hz
  ·rw [hi] at hb
   injection hb with hb;injection hb with e1 e2;subst e1 e2;exact absurd hz h1
theorem Bfs.goal (H : Bfs nx T s0 P i c none) {h : Int} (hc : T[c]? = some h) (hi : P[i]? = some (si,pi)) (h1 : (nx si h).fin = 1) : Bfs nx T s0 P i (c + 1) (some (pi ++ [h])):=by
 refine { H with closed:=fun b sb pb x hd hb hx hz => ?_,goal1:=fun p hp => ?_,goal2:=fun b sb pb x hd hb hx hz => ?_ }
 ·rcases doneS hc hd with hd | ⟨rfl,rfl⟩
  ·exact H.closed b sb pb x hd hb hx hz
  ·rw [hi] at hb
   injection hb with hb;injection hb with e1 e2;subst e1 e2;omega
 ·injection hp with hp
  subst hp;exact ⟨i,si,pi,h,Nat.le_refl _,hi,rfl,h1,List.mem_of_getElem? hc⟩
 ·rcases doneS hc hd with hd | ⟨rfl,rfl⟩
  ·obtain ⟨p,h2,_⟩:=H.goal2 b sb pb x hd hb hx hz
   cases h2
  ·rw [hi] at hb
   injection hb with hb;injection hb with e1 e2;subst e1 e2;exact ⟨_,rfl,by simp⟩
theorem Bfs.again {p0 : List Int} (H : Bfs nx T s0 P i c (some p0)) {h : Int} (hc : T[c]? = some h) (hi : P[i]? = some (si,pi)) (h1 : (nx si h).fin = 1) : Bfs nx T s0 P i (c + 1) (some p0):=by
 refine { H with closed:=fun b sb pb x hd hb hx hz => ?_,goal2:=fun b sb pb x hd hb hx hz => ?_ }
 ·rcases doneS hc hd with hd | ⟨rfl,rfl⟩
  ·exact H.closed b sb pb x hd hb hx hz
  ·rw [hi] at hb
   injection hb with hb;injection hb with e1 e2;subst e1 e2;omega
 ·rcases doneS hc hd with hd | ⟨rfl,rfl⟩
  ·exact H.goal2 b sb pb x hd hb hx hz
  ·obtain ⟨b',sb',pb',h',g1,g2,g3,_⟩:=H.goal1 p0 rfl
   refine ⟨p0,rfl,?_⟩;rw [g3];have:=H.mono _ _ _ _ _ _ g1 g2 hb
   simp; omega
theorem Bfs.next (H : Bfs nx T s0 P i T.length gl) (hil : i < P.length) : Bfs nx T s0 P (i + 1) 0 gl:=by
 refine { H with near:=fun k sk pk s p h1 h2 => ?_,closed:=fun b sb pb x hd hb hx hz => ?_,goal1:=fun p hp => ?_,goal2:=fun b sb pb x hd hb hx hz => ?_ }
 ·obtain ⟨si,pi⟩ : GS × List Int:=P[i]
  have hi : P[i]? = some P[i]:=List.getElem?_eq_getElem hil;have a1:=H.near k sk pk P[i].1 P[i].2 h1 hi;have a2:=H.mono i (i + 1) P[i].1 P[i].2 s p (by omega) hi h2;omega
 ·refine H.closed b sb pb x ?_ hb hx hz
  simp at hd
  rcases Nat.lt_or_ge b i with h | h
  ·exact .inl h
  ·exact .inr ⟨by omega,by rw [List.take_length]; exact hx⟩
 ·obtain ⟨b,sb,pb,h,h1,h2⟩:=H.goal1 p hp
  exact ⟨b,sb,pb,h,by omega,h2⟩
 ·refine H.goal2 b sb pb x ?_ hb hx hz
  simp at hd
  rcases Nat.lt_or_ge b i with h | h
  ·exact .inl h
  ·exact .inr ⟨by omega,by rw [List.take_length]; exact hx⟩
theorem RunG.last {p : List Int} {s : GS} (h : RunG nx s0 p s) : p = [] ∧ s = s0 ∨ ∃ p' s' x,p = p' ++ [x] ∧ RunG nx s0 p' s' ∧ s'.fin = 0 ∧ s = nx s' x:=by
 cases h with
 | nil => exact .inl ⟨rfl,rfl⟩
 | @snoc p' s' x h1 h2 => exact .inr ⟨p',s',x,rfl,h1,h2,rfl⟩
theorem Bfs.all (H : Bfs nx T s0 P P.length 0 gl) (ht : ∀ h,∃ h' ∈ T,∀ s,nx s h = nx s h') : ∀ {p : List Int} {s : GS},RunG nx s0 p s → s.fin = 0 → ∃ p',(s,p') ∈ P ∧ p'.length ≤ p.length:=by
 intro p s h
 induction h with
 | nil => intro _; exact ⟨[],List.mem_of_getElem? H.first,Nat.le_refl _⟩
 | @snoc p s x h1 h2 ih =>
  intro hf;obtain ⟨p',hm,hl⟩:=ih h2;obtain ⟨h',hT,e⟩:=ht x;obtain ⟨k,hk⟩:=List.mem_iff_getElem?.1 hm;rw [e] at hf ⊢;obtain ⟨q,hq,hql⟩:=H.closed k s p' h' (.inl (List.getElem?_eq_some_iff.1 hk).1) hk hT hf;exact ⟨q,hq,by simp; omega⟩
theorem Bfs.best (H : Bfs nx T s0 P P.length 0 gl) (ht : ∀ h,∃ h' ∈ T,∀ s,nx s h = nx s h') {p : List Int} {s : GS} (h : RunG nx s0 p s) (hf : s.fin = 1) (h0 : s0.fin = 0) : ∃ q,gl = some q ∧ q.length ≤ p.length:=by
 rcases h.last with ⟨_,rfl⟩ | ⟨p',s',x,rfl,h1,h2,rfl⟩
 ·omega
 ·obtain ⟨q,hm,hl⟩:=H.all ht h1 h2
  obtain ⟨h',hT,e⟩:=ht x;obtain ⟨k,hk⟩:=List.mem_iff_getElem?.1 hm;rw [e] at hf;obtain ⟨r,hr,hrl⟩:=H.goal2 k s' q h' (.inl (List.getElem?_eq_some_iff.1 hk).1) hk hT hf;exact ⟨r,hr,by simp; omega⟩
theorem Bfs.runs (H : Bfs nx T s0 P i c gl) {p : List Int} (hp : gl = some p) : ∃ s,RunG nx s0 p s ∧ s.fin = 1 ∧ ∀ h ∈ p,h ∈ T:=by
 obtain ⟨b,sb,pb,h,_,h2,rfl,h4,h5⟩:=H.goal1 p hp;obtain ⟨r1,r2,r3⟩:=H.run sb pb (List.mem_of_getElem? h2)
 exact ⟨_,.snoc h r1 r2,h4,fun x hx => by
  rcases List.mem_append.1 hx with hx | hx
  ·exact r3 x hx
  ·rw [List.mem_singleton] at hx; subst hx; exact h5⟩
end
theorem step_like {rows : List (List UInt8)} {W : Nat} {h h' : Int} (h1 : mvF h = mvF h') (h2 : jpF h = jpF h') (s : GS) : stepF rows W h s = stepF rows W h' s:=by
 unfold stepF sideF jumpF;rw [h1,h2]
theorem tried_all {rows : List (List UInt8)} {W : Nat} (h : Int) : ∃ h' ∈ triedL,∀ s,stepF rows W h s = stepF rows W h' s:=by
 have mv : ∀ a b : Int,(a % 4 = b % 4 ∨ (a % 4 = 0 ∨ a % 4 = 3) ∧ (b % 4 = 0 ∨ b % 4 = 3)) → mvF a = mvF b:=fun a b e => by
  funext x
  unfold mvF;rcases e with e | ⟨e1,e2⟩
  ·rw [e]
  ·rw [if_neg (by omega),if_neg (by omega),if_neg (by omega),if_neg (by omega)]
 by_cases hj : 16 ≤ h % 32
 ·have hj' : ∀ b : Int,16 ≤ b % 32 → jpF h = jpF b:=fun b hb => by unfold jpF; rw [decide_eq_true hj,decide_eq_true hb]
  by_cases h1 : h % 4 = 1
  ·exact ⟨17,by decide,step_like (mv _ _ (.inl (by omega))) (hj' _ (by decide))⟩
  ·by_cases h2 : h % 4 = 2
   ·exact ⟨18,by decide,step_like (mv _ _ (.inl (by omega))) (hj' _ (by decide))⟩
   ·exact ⟨16,by decide,step_like (mv _ _ (.inr ⟨by omega,by decide⟩)) (hj' _ (by decide))⟩
 ·have hj' : ∀ b : Int,¬ 16 ≤ b % 32 → jpF h = jpF b:=fun b hb => by unfold jpF; rw [decide_eq_false hj,decide_eq_false hb]
  by_cases h1 : h % 4 = 1
  ·exact ⟨1,by decide,step_like (mv _ _ (.inl (by omega))) (hj' _ (by decide))⟩
  ·by_cases h2 : h % 4 = 2
   ·exact ⟨2,by decide,step_like (mv _ _ (.inl (by omega))) (hj' _ (by decide))⟩
   ·exact ⟨0,by decide,step_like (mv _ _ (.inr ⟨by omega,by decide⟩)) (hj' _ (by decide))⟩
end Go.Proofs.YtkchacgkjdeiaaaGreatDoor
/- A small level has few states, plain. -/
namespace Go.Proofs.YtkchacgkjdeiaaaGreatDoor

theorem nodup_leG : ∀ (N : Nat) (l : List Nat),l.Nodup → (∀ x ∈ l,x < N) → l.length ≤ N
 | 0,[],_,_ => Nat.le_refl _
 | 0,x :: _,_,h => absurd (h x (by simp)) (Nat.not_lt_zero _)
 | N + 1,l,hn,h => by
  have h1:=nodup_leG N (l.erase N) (hn.erase N) (fun x hx => by
   have h2:=h x (List.mem_of_mem_erase hx)
   have h3 : x ≠ N:=fun e => by subst e; exact (List.Nodup.not_mem_erase hn) hx
   omega)
  have h2:=List.length_erase (l:=l) (a:=N)
  by_cases c : N ∈ l
  ·rw [if_pos c] at h2; omega
  ·rw [if_neg c] at h2; omega
theorem nodup_mapG {α : Type} {f : α → Nat} : ∀ {l : List α},l.Nodup → (∀ x ∈ l,∀ y ∈ l,f x = f y → x = y) → (l.map f).Nodup
 | [],_,_ => by simp
 | a :: l,hn,hi => by
  obtain ⟨h1,h2⟩:=List.nodup_cons.1 hn;rw [List.map_cons,List.nodup_cons];refine ⟨fun h => ?_,nodup_mapG h2 (fun x hx y hy => hi x (List.mem_cons_of_mem _ hx) y (List.mem_cons_of_mem _ hy))⟩;obtain ⟨b,hb,e⟩:=List.mem_map.1 h;have:=hi b (List.mem_cons_of_mem _ hb) a (List.mem_cons_self ..) e;subst this;exact h1 hb
def codeG (s : GS) : Nat:=(((s.x.toNat * 5 + s.y.toNat) * 4 + s.rise.toNat) * 2 + (if s.held then 1 else 0)) * 4 + s.mask
section
variable {rows : List (List UInt8)} {W : Nat}
theorem bit_few (hL : Lv rows W) (h2 : cntG 111 rows ≤ 2) (x y : Int) : bitF rows W x y < 4:=by
 unfold bitF
 by_cases hc : cellF rows W x y = 111
 ·rw [if_pos hc]
  obtain ⟨X,Y,hY,hX,rfl,rfl,_,e⟩:=hL.cell_nat (v:=111) hc (by decide) (by decide)
  have e1 : rows[Y][X] = 111:=by rw [← UInt8.toNat_inj]; exact e
  have h3:=cN_lt hY hX e1;simp only [Int.toNat_natCast];have h4 : 2 ^ cN 111 rows X Y ≤ 2 ^ 1:=Nat.pow_le_pow_right (by decide) (by omega);omega
 ·rw [if_neg hc]; decide
structure GFew (rows : List (List UInt8)) (W : Nat) (s : GS) : Prop where
  ok : GOk rows W s
  fin : s.fin = 0
  mask : s.mask < 4
theorem GFew.step (hL : Lv rows W) (h2 : cntG 111 rows ≤ 2) {s : GS} (hs : GFew rows W s) (h : Int) : GOk rows W (stepF rows W h s) ∧ (stepF rows W h s).mask < 4:=by
 refine ⟨hs.ok.step hL hs.fin,?_⟩;show (vertF rows W (jumpF rows W h (sideF rows W h s))).mask ||| bitF rows W _ _ < 4
 have hm : (vertF rows W (jumpF rows W h (sideF rows W h s))).mask = s.mask:=by
  rw [vert_mask];show (sideF rows W h s).mask = s.mask
  unfold sideF; split <;> rfl
 rw [hm];exact Nat.or_lt_two_pow (n:=2) hs.mask (bit_few hL h2 _ _)
theorem run_few (hL : Lv rows W) (h2 : cntG 111 rows ≤ 2) {s0 : GS} (h0 : GFew rows W s0) {p : List Int} {s : GS} (h : RunG (fun s h => stepF rows W h s) s0 p s) : GOk rows W s ∧ s.mask < 4:=by
 have key : ∀ {p : List Int} {s : GS},RunG (fun s h => stepF rows W h s) s0 p s → GOk rows W s ∧ s.mask < 4:=by
  intro p s h
  induction h with
  | nil => exact ⟨h0.ok,h0.mask⟩
  | snoc x h1 hf ih => exact GFew.step hL h2 ⟨ih.1,hf,ih.2⟩ x
 exact key h
theorem code_inj (hW : W ≤ 8) (hr : rows.length ≤ 5) {s t : GS} (hs : GFew rows W s) (ht : GFew rows W t) (e : codeG s = codeG t) : s = t:=by
 obtain ⟨⟨a1,a2,a3,a4,a5,a6,a7,a8,a9,a10⟩,f1,m1⟩:=hs;obtain ⟨⟨b1,b2,b3,b4,b5,b6,b7,b8,b9,b10⟩,f2,m2⟩:=ht;have a5:=a5 f1;have b5:=b5 f2;unfold codeG at e
 cases s with | mk sx sy sr sh sm sf =>
 cases t with | mk tx ty tr th tm tf =>
 simp only at *;subst f1 f2
 cases sh <;> cases th <;> simp only [if_true,if_false,Bool.false_eq_true] at e
 ·obtain ⟨rfl,rfl,rfl,rfl⟩ : sx = tx ∧ sy = ty ∧ sr = tr ∧ sm = tm:=by refine ⟨?_,?_,?_,?_⟩ <;> omega
  rfl
 ·omega
 ·omega
 ·obtain ⟨rfl,rfl,rfl,rfl⟩ : sx = tx ∧ sy = ty ∧ sr = tr ∧ sm = tm:=by refine ⟨?_,?_,?_,?_⟩ <;> omega
  rfl
theorem few_statesG (hW : W ≤ 8) (hr : rows.length ≤ 5) {l : List GS} (hn : l.Nodup) (h : ∀ s ∈ l,GFew rows W s) : l.length ≤ 1280:=by
 have h1:=nodup_leG 1280 (l.map codeG) (nodup_mapG hn (fun x hx y hy e => code_inj hW hr (h x hx) (h y hy) e)) (fun z hz => by
  obtain ⟨s,hs,rfl⟩:=List.mem_map.1 hz;obtain ⟨⟨a1,a2,a3,a4,a5,a6,a7,a8,a9,a10⟩,f1,m1⟩:=h s hs;have a5:=a5 f1;unfold codeG
  have : (if s.held = true then 1 else 0) ≤ 1:=by split <;> omega
  omega)
 simpa using h1
end
end Go.Proofs.YtkchacgkjdeiaaaGreatDoor
/- How a game is played, plain. -/
namespace Go.Proofs.YtkchacgkjdeiaaaGreatDoor
open Go.RowKit

def gsC (s : GS) : List Value:=[.int .i64 s.x,.int .i64 s.y,.int .i64 s.rise,.bool s.held,.int .i64 s.mask,.int .i64 s.fin]
def gss (l : List GS) : List Value:=l.flatMap gsC
theorem gss_app (a b : List GS) : gss (a ++ b) = gss a ++ gss b:=by simp [gss]
theorem gss_one (s : GS) : gss [s] = gsC s:=by simp [gss]
theorem gss_at (l : List GS) : ∀ (k : Nat) (h : k < l.length),(gss l)[k * 6]? = some (.int .i64 l[k].x) ∧ (gss l)[k * 6 + 1]? = some (.int .i64 l[k].y) ∧ (gss l)[k * 6 + 2]? = some (.int .i64 l[k].rise) ∧ (gss l)[k * 6 + 3]? = some (.bool l[k].held) ∧ (gss l)[k * 6 + 4]? = some (.int .i64 l[k].mask) ∧ (gss l)[k * 6 + 5]? = some (.int .i64 l[k].fin):=by
 induction l with
 | nil => intro k h; exact absurd h (by simp)
 | cons s l ih =>
  intro k h
  have e : gss (s :: l) = gsC s ++ gss l:=by simp [gss]
  match k,h with
  | 0,_ => rw [e]; exact ⟨rfl,rfl,rfl,rfl,rfl,rfl⟩
  | k + 1,h =>
   have g : ∀ j,(gss (s :: l))[(k + 1) * 6 + j]? = (gss l)[k * 6 + j]?:=fun j => by
    rw [e,List.getElem?_append_right (by simp [gsC]; omega)]
    congr 1
    simp [gsC]; omega
   have:=ih k (by simpa using h);exact ⟨(g 0).trans this.1,(g 1).trans this.2.1,(g 2).trans this.2.2.1,(g 3).trans this.2.2.2.1,(g 4).trans this.2.2.2.2.1,(g 5).trans this.2.2.2.2.2⟩
def bodyG (s : GS) : GS:={ s with mask:=popN s.mask }
def playF (rows : List (List UInt8)) (W : Nat) : GS → List Int → List GS
 | _,[] => []
 | s,h :: t => stepF rows W h s :: if (stepF rows W h s).fin = 0 then playF rows W (stepF rows W h s) t else []
section
variable {rows : List (List UInt8)} {W : Nat} {s : GS} {h : Int} {xs : List Int}
theorem playF_len : ∀ {xs : List Int} {s : GS},(playF rows W s xs).length ≤ xs.length
 | [],_ => Nat.le_refl _
 | h :: t,s => by
  unfold playF
  split
  ·have:=@playF_len t (stepF rows W h s); simp; omega
  ·simp
theorem playF_drop {k : Nat} (hk : k < xs.length) : playF rows W s (xs.drop k) = stepF rows W xs[k] s :: if (stepF rows W xs[k] s).fin = 0 then playF rows W (stepF rows W xs[k] s) (xs.drop (k + 1)) else []:=by
 rw [List.drop_eq_getElem_cons hk]; rfl
theorem playF_all {l : List GS} {k : Nat} (hk : k < xs.length) {s0 : GS} (h : l ++ playF rows W s (xs.drop k) = playF rows W s0 xs) (hf : (stepF rows W xs[k] s).fin ≠ 0) : l ++ [stepF rows W xs[k] s] = playF rows W s0 xs:=by
 rw [← h,playF_drop hk,if_neg hf]
theorem playF_more {l : List GS} {k : Nat} (hk : k < xs.length) {s0 : GS} (h : l ++ playF rows W s (xs.drop k) = playF rows W s0 xs) (hf : (stepF rows W xs[k] s).fin = 0) : (l ++ [stepF rows W xs[k] s]) ++ playF rows W (stepF rows W xs[k] s) (xs.drop (k + 1)) = playF rows W s0 xs:=by
 rw [← h,playF_drop hk,if_pos hf]; simp
theorem playF_end {l : List GS} {s0 : GS} (h : l ++ playF rows W s (xs.drop xs.length) = playF rows W s0 xs) : l = playF rows W s0 xs:=by
 rw [← h,List.drop_length]; simp [playF]
theorem playF_ok (hL : Lv rows W) : ∀ {xs : List Int} {s : GS},GOk rows W s → s.fin = 0 → ∀ t ∈ playF rows W s xs,GOk rows W t
 | [],_,_,_,_,h => by simp [playF] at h
 | a :: l,s,hs,hf,t,ht => by
  unfold playF at ht;have h1:=hs.step (h:=a) hL hf;rcases List.mem_cons.1 ht with rfl | ht
  ·exact h1
  ·split at ht
   ·rename_i e; exact playF_ok hL h1 e t ht
   ·cases ht
theorem start_ok (hL : Lv rows W) {sx sy : Int} (h : cellF rows W sx sy = 115) : GOk rows W ⟨sx,sy,0,false,0,0⟩:=by
 rcases cellF_where (rows:=rows) (W:=W) (x:=sx) (y:=sy) (by rw [h]; decide) with h1 | h1
 ·rw [cellF_low h1] at h; cases h
 ·exact ⟨h1.2.2.1,h1.2.2.2,h1.1,by show sy ≤ _; omega,fun _ => h1.2.1,by show (0:Int) ≤ 0; omega,by show (0:Int) ≤ 3; omega,by show (0:Nat) < 1024; omega,by show (0:Int) ≤ 0; omega,by show (0:Int) ≤ 2; omega⟩
end
end Go.Proofs.YtkchacgkjdeiaaaGreatDoor
