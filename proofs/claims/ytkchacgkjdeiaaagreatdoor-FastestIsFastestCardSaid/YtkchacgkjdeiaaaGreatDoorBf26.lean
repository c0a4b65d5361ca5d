/- Texts of this seat, laid together: GfF. -/
import Derived.Deep.DeepCutAuto
import Derived.Deep.CutRange
import Derived.Test.YtkchacgkjdeiaaaGreatDoorBf25
import Derived.Test.YtkchacgkjdeiaaaGreatDoorBf08
import Derived.Test.YtkchacgkjdeiaaaGreatDoorBf11
/- The walks of slices.Reverse over pieces and of input.Fastest. -/
namespace Go.Proofs.YtkchacgkjdeiaaaGreatDoor
set_option linter.unusedVariables false
set_option linter.unusedSimpArgs false
open Go.RowKit Go.Maps

structure RvC (w W : World) (base b c n : Nat) (us : List (Int × Int)) : Prop where
  own : W.ownsRow base 39 2 (.slice (some ⟨b, 0, none⟩) n c) n (prs us)
  gr : w.grownBy W (some b)
  len : us.length = n
section
variable {w W : World} {base b c n : Nat} {us : List (Int × Int)}
theorem RvC.drew (h : RvC w W base b c n us) : RvC w W.drew base b c n us:=⟨World.ownsRow.drew h.own,grown_drew h.gr,h.len⟩
theorem RvC.put (h : RvC w W base b c n us) {m : Nat} (hm : m < n) (x : Int × Int) : RvC w ((W.setCell ⟨b,m * 2,none⟩ (.int .i64 x.1)).setCell ⟨b,m * 2 + 1,none⟩ (.int .i64 x.2)) base b c n (us.set m x):=by
 have h1:=((h.own.stored (m * 2) (.int .i64 x.1)).1.stored (m * 2 + 1) (.int .i64 x.2)).1;rw [prs_set2 us m (by rw [h.len]; exact hm)] at h1;exact ⟨h1,grown_set (grown_set h.gr _ _) _ _,by rw [List.length_set]; exact h.len⟩
theorem RvC.at (h : RvC w W base b c n us) {k : Nat} {x : Int × Int} (hx : us[k]? = some x) : b < W.heap.size ∧ (W.cell? ⟨b,k * 2,none⟩ = some (.int .i64 x.1) ∧ W.cell? ⟨b,k * 2 + 1,none⟩ = some (.int .i64 x.2)) ∧ W.frozen? ⟨b,k * 2,none⟩ = false ∧ W.frozen? ⟨b,k * 2 + 1,none⟩ = false:=by
 obtain ⟨hk,rfl⟩:=List.getElem?_eq_some_iff.1 hx;have hl:=h.len;obtain ⟨b',e,-,h1,h2,h3⟩:=ownBlk h.own (by omega);injection e with e; injection e with e1 e2;subst e1;obtain ⟨p0,p1⟩:=prs_at us k hk;exact ⟨h1,⟨h2 _ _ p0,h2 _ _ p1⟩,h3 _,h3 _⟩
end
def RevI (xs us : List (Int × Int)) (k : Nat) : Prop:=us.length = xs.length ∧ ∀ i,i < xs.length → us[i]? = if i < k ∨ xs.length ≤ i + k then xs[xs.length - 1 - i]? else xs[i]?
theorem RevI.zero (xs : List (Int × Int)) : RevI xs xs 0:=⟨rfl,fun i hi => by rw [if_neg (by omega)]⟩
theorem RevI.next {xs us : List (Int × Int)} {k : Nat} (h : RevI xs us k) {x y : Int × Int} (hk : k + k + 1 < xs.length) (hx : us[k]? = some x) (hy : us[xs.length - 1 - k]? = some y) : RevI xs ((us.set k y).set (xs.length - 1 - k) x) (k + 1):=by
 obtain ⟨h1,h2⟩:=h;refine ⟨by simp [h1],fun i hi => ?_⟩;have hxk:=h2 k (by omega);have hyk:=h2 (xs.length - 1 - k) (by omega);rw [if_neg (by omega),hx] at hxk;rw [if_neg (by omega),hy] at hyk
 by_cases c1 : i = xs.length - 1 - k
 ·subst c1
  rw [List.getElem?_set_self (by simp; omega),if_pos (by omega),show xs.length - 1 - (xs.length - 1 - k) = k by omega];exact hxk
 ·rw [List.getElem?_set_ne (fun e => c1 e.symm)]
  by_cases c2 : i = k
  ·subst c2
   rw [List.getElem?_set_self (by omega),if_pos (by omega)];exact hyk
  ·rw [List.getElem?_set_ne (fun e => c2 e.symm),h2 i hi]
   by_cases c3 : i < k ∨ xs.length ≤ i + k
   ·rw [if_pos c3,if_pos (by omega)]
   ·rw [if_neg c3,if_neg (by omega)]
theorem RevI.done {xs us : List (Int × Int)} {k : Nat} (h : RevI xs us k) (hk : xs.length ≤ k + k + 1) : us = xs.reverse:=by
 obtain ⟨h1,h2⟩:=h
 refine List.ext_getElem? fun i => ?_
 rcases Nat.lt_or_ge i xs.length with hi | hi
 ·rw [h2 i hi,List.getElem?_reverse hi]
  split
  ·rfl
  ·rename_i c
   rw [show xs.length - 1 - i = i by omega]
 ·rw [List.getElem?_eq_none (by omega),List.getElem?_eq_none (by simpa using hi)]
def RvPost (w : World) (base b c n : Nat) (xs : List (Int × Int)) (e : Ending) (w' : World) : Prop:=e = .returned (.tuple #[]) ∧ RvC w w' base b c n xs.reverse
set_option maxHeartbeats 2000000 in
theorem reverseP_any (base b c n : Nat) (xs : List (Int × Int)) (w0 w : World) (hC : RvC w0 w base b c n xs) (hn : n ≤ 1000000) :
  Calls Tryz.prog 37 #[.slice (some ⟨b,0,none⟩) n c] w (RvPost w0 base b c n xs):=by
 have HC:=Lib.hid hC;have HN:=Lib.hid hC.len;clear hC
 go_enter Tryz.func37,Tryz.ntmps37
 have wn : IntKind.i64.wrap ((n : Int) - 1) = (n : Int) - 1:=IntWalk.i64_in _ ⟨by omega,by omega⟩;go_wp2_with fail;clear wn
 go_loopw [2,3] (fun i j wr => ∃ (k : Nat) (us : List (Int × Int)),k ≤ n ∧ i = .int .i64 k ∧ j = .int .i64 ((n : Int) - 1 - k) ∧ Hid (RvC w0 wr base b c n us) ∧ Hid (RevI xs us k)) (fun i _ _ => n - (intOf i).toNat)
 case atStart => exact ⟨0,xs,Nat.zero_le _,rfl,by congr 1; omega,HC,Lib.hid (RevI.zero xs)⟩
 case round =>
  clear HC;obtain ⟨k,us,hk,rfl,rfl,HC,HI⟩:=hrel
  by_cases hlt : k + k + 1 < n
  ·have hl:=HC.out.len
   obtain ⟨q,hq⟩ : ∃ q,q = n - 1 - k:=⟨_,rfl⟩
   have eq' : (n : Int) - 1 - (k : Int) = (q : Int):=by omega
   have hqn : q < n:=by omega
   have hkn : k < n:=by omega
   have hkq : k < q:=by omega
   obtain ⟨x,hx⟩ : ∃ x,us[k]? = some x:=⟨_,List.getElem?_eq_getElem (by omega)⟩
   obtain ⟨y,hy⟩ : ∃ y,us[q]? = some y:=⟨_,List.getElem?_eq_getElem (by omega)⟩
   obtain ⟨hbz,⟨c0,c1⟩,f0,f1⟩:=HC.out.at hx;obtain ⟨-,⟨d0,d1⟩,g0,g1⟩:=HC.out.at hy
   have HI2 : Hid (RevI xs ((us.set k y).set q x) (k + 1)):=Lib.hid (by
    have h1:=HI.out.next (x:=x) (y:=y) (by rw [HN.out]; exact hlt) hx (by rw [HN.out,← hq]; exact hy);rw [HN.out,← hq] at h1
    exact h1)
   have HS:=Lib.hid ((HC.out.put hkn y).put hqn x).drew;have hd1 : decide ((k : Int) < (q : Int)) = true:=decide_eq_true (by omega);have wq : IntKind.i64.wrap ((q : Int) - 1) = (q : Int) - 1:=IntWalk.i64_in _ ⟨by omega,by omega⟩;rw [eq'];have HQ:=Lib.hid eq';clear hx hy HC HI eq' hq;go_wp2_with fail
   go_big_region
   clear c0 c1 d0 d1 f0 f1 g0 g1;go_wp2_with fail;go_roundw
   case rel => exact ⟨k + 1,_,by omega,by go_num,by congr 1; have:=HQ.out; omega,HS,HI2⟩
   case measure => simp [intOf]; omega
  ·have HE : Hid (RvPost w0 base b c n xs (.returned (.tuple #[])) wr):=Lib.hid ⟨rfl,by
    have:=HI.out.done (by rw [HN.out]; omega)
    rw [← this]; exact HC.out⟩
   have hd1 : decide ((k : Int) < (n : Int) - 1 - (k : Int)) = false:=decide_eq_false (by omega);go_wp2_with fail
   go_end0
   exact HE.out
theorem LinkE.short {E : List ReE} {P : List (GS × List Int)} (h : LinkE E P) : ∀ (j : Nat) (s : GS) (p : List Int),P[j]? = some (s,p) → p.length ≤ j:=by
 intro j
 induction j using Nat.strongRecOn with
 | ind j ih =>
  intro s p hp;have hj:=(List.getElem?_eq_some_iff.1 hp).1
  obtain ⟨e,he⟩ : ∃ e,E[j]? = some e:=⟨_,List.getElem?_eq_getElem (by rw [h.len]; exact hj)⟩
  obtain ⟨_,h2⟩:=h.st j e s p he hp;rcases h2 with ⟨_,rfl⟩ | ⟨b,sb,pb,_,hb,hpb,rfl⟩
  ·exact Nat.zero_le _
  ·have:=ih b hb sb pb hpb
   simp; omega
def PathE (P : List (GS × List Int)) (b h : Int) (p : List Int) : Prop:=(b = -1 ∧ p = []) ∨ ∃ (k : Nat) (sb : GS) (pb : List Int),b = k ∧ P[k]? = some (sb,pb) ∧ p = pb ++ [h]
def lenV : Value → Nat
 | .slice _ n _ => n
 | _ => 0
theorem oneP_rev (q : List Int) : (oneP q).reverse = oneP q.reverse:=by unfold oneP; rw [List.map_reverse]
theorem oneP_len (q : List Int) : (oneP q).length = q.length:=by unfold oneP; rw [List.length_map]
theorem oneP_app (q : List Int) (h : Int) : oneP (q ++ [h]) = oneP q ++ [(h,1)]:=by unfold oneP; simp
theorem own_downG {w : World} {base base' : Nat} {e : TypeId} {size : Nat} {v : Value} {n : Nat} {xs : List Value} (h : w.ownsRow base e size v n xs) (hb : base' ≤ base) : w.ownsRow base' e size v n xs :=
 ⟨h.1,h.2.imp id fun ⟨g,cap,cur,h1,h2,h3⟩ => ⟨g,cap,cur,h1,Nat.le_trans hb h2,h3⟩⟩
theorem Row.growG {W W' : World} {lo size n : Nat} {A : Option Addr} {xs : List Value} {row : Option Nat} (h : Row W lo size A n xs) (hg : W.grownBy W' row) (hne : 0 < n → ∀ a,A = some a → some a.block ≠ row) : Row W' lo size A n xs :=
 ⟨h.1,fun hn => by
  obtain ⟨b,off,e,h1,h2,h3⟩:=h.2 hn
  exact ⟨b,off,e,h1,Nat.lt_of_lt_of_le h2 hg.size,fun j u hu => (World.cell?_of_block (hg.block b h2 (hne hn _ e))).trans (h3 j u hu)⟩⟩
def FgPost (rows : List (List UInt8)) (W : Nat) (s0 : GS) (w : World) (e : Ending) (w' : World) : Prop :=
 ∃ (P : List (GS × List Int)) (gl : Option (List Int)),Bfs (nxG rows W) triedL s0 P P.length 0 gl ∧ P.length ≤ 1280 ∧ (∀ q,gl = some q → q.length ≤ 1280) ∧ ((gl = none ∧ e = .returned (.tuple #[.slice none 0 0,.bool false,.int .i64 0])) ∨ ∃ (q : List Int) (A : Option Addr) (c : Nat),gl = some q ∧ e = .returned (.tuple #[.slice A (tidyM (oneP q)).length c,.bool true,.int .i64 0]) ∧ w'.ownsRow w.heap.size 39 2 (.slice A (tidyM (oneP q)).length c) (tidyM (oneP q)).length (prs (tidyM (oneP q)))) ∧ Below w.heap.size w w'
set_option maxHeartbeats 8000000 in
set_option maxRecDepth 100000 in
theorem fastest_gm (lo : Nat) (AL : Option Addr) (cl : Nat) (rows : List (List UInt8)) (W : Nat) (w : World) (hr : Row w lo 1 AL rows.length (strs rows)) (hlv : glvF rows = 0) (hL : Lv rows W) (h2 : cntG 111 rows ≤ 2) (hW : W ≤ 8) (hrl : rows.length ≤ 5) :
  Calls Tryz.prog 9 #[.slice AL rows.length cl] w fun e w' => ∃ sx sy,cellF rows W sx sy = 115 ∧ FgPost rows W (gs0 sx sy) w e w':=by
 have HCL:=Lib.hid (checkLevel_any AL cl lo rows w hr (by omega) (fun r h => by have:=hL.wide r h; omega));have HNG:=Lib.hid (newGame_any lo AL cl rows W w hr hL);have HROW:=Lib.hid (fun (W' : World) (h : Below w.heap.size w W') => hr.below h);have HL:=Lib.hid hL;have H2:=Lib.hid h2;have HW:=Lib.hid (And.intro hW hrl);rw [hlv] at HCL;clear hr hL h2 hW hrl hlv
 go_enter Tryz.func9,Tryz.ntmps9
 go_wp2_with fail;refine HCL.out.mono ?_;rintro e w1 ⟨rfl,hw1⟩;rw [hw1];clear HCL hw1 w1;go_wp2_with fail;refine HNG.out.mono ?_;rintro e w1 ⟨p,sx,sy,mb,rfl,hg,hc,hb0⟩;have hex:=explore_gm p lo AL cl rows W sx sy mb w1 (HROW.out _ hb0) HL.out hg hc H2.out HW.out.1 HW.out.2;have HC:=Lib.hid hc;clear hg hc HNG;go_wp2_with fail;refine hex.mono ?_;clear hex;rintro e w2 ⟨A,c,n,E,P,gl,gs,gb,gh,f,rfl,hrow,hP,hb⟩;have hbw:=below_up hb0 hb;have HP:=Lib.hid hP;have hrow0:=row_down hrow;have HN : Hid (n ≤ 1280):=Lib.hid (hP.few HL.out H2.out HW.out.1 HW.out.2 ⟨start_ok HL.out HC.out,rfl,by show (0 : Nat) < 4; decide⟩)
 have HBF : Hid (Bfs (nxG rows W) triedL (gs0 sx sy) P P.length 0 gl ∧ P.length ≤ 1280 ∧ ∀ q,gl = some q → q.length ≤ 1280):=Lib.hid (by
  have h1:=HP.out.le.len;have h3:=HP.out.n;have h4:=HP.out.bfs;rw [show n = P.length by omega] at h4;refine ⟨h4,by have:=HN.out; omega,fun q hq => ?_⟩;obtain ⟨b,sb,pb,h,_,h5,rfl,_⟩:=h4.goal1 q hq;have h6:=HP.out.le.short b sb pb h5;have h7:=(List.getElem?_eq_some_iff.1 h5).1;have:=HN.out
  simp; omega)
 clear hb hP hrow hb0;go_upto_region 5 with (fail);have hxb : Blk (w2.alloc (.cells #[.int .i64 gs.x,.int .i64 gs.y,.int .i64 gs.rise,.bool gs.held,.int .i64 gs.mask,.int .i64 gs.fin,.int .i64 gb,.int .i64 gh] 76)) w2.heap.size 76 #[.int .i64 gs.x,.int .i64 gs.y,.int .i64 gs.rise,.bool gs.held,.int .i64 gs.mask,.int .i64 gs.fin,.int .i64 gb,.int .i64 gh]:=Blk.new _ _ _;have hwz : w.heap.size ≤ w2.heap.size:=hbw.size;have hrow3:=hrow0.alloc (.cells #[.int .i64 gs.x,.int .i64 gs.y,.int .i64 gs.rise,.bool gs.held,.int .i64 gs.mask,.int .i64 gs.fin,.int .i64 gb,.int .i64 gh] 76)
 have hRX : Hid (∀ b off,A = some ⟨b,off,none⟩ → 0 < n → b < w2.heap.size):=Lib.hid (fun b off e h0 => by
  obtain ⟨b',off',e',_,hb',_⟩:=hrow0.2 h0
  rw [e] at e'; injection e' with e'; injection e' with e1 _; omega)
 replace hbw:=hbw.alloc hbw.size (.cells #[.int .i64 gs.x,.int .i64 gs.y,.int .i64 gs.rise,.bool gs.held,.int .i64 gs.mask,.int .i64 gs.fin,.int .i64 gb,.int .i64 gh] 76);clear hrow0;generalize w2.alloc (.cells #[.int .i64 gs.x,.int .i64 gs.y,.int .i64 gs.rise,.bool gs.held,.int .i64 gs.mask,.int .i64 gs.fin,.int .i64 gb,.int .i64 gh] 76) = w3 at *;generalize w2.heap.size = xb at *
 obtain ⟨x0,x1,x2,x3,x4,x5,x6,x7⟩ : _ ∧ _ ∧ _ ∧ _ ∧ _ ∧ _ ∧ _ ∧ _:=⟨hxb.cell 0,hxb.cell 1,hxb.cell 2,hxb.cell 3,hxb.cell 4,hxb.cell 5,hxb.cell 6,hxb.cell 7⟩
 simp only [Q0,Q2,Q1] at x0 x1 x2 x3 x4 x5 x6 x7;have zx:=hxb.lt;rcases HP.out.lg with ⟨hgl,hgb⟩ | ⟨k0,sb,pb,hgl,hgb,hpb⟩
 ·have d2 : decide (gb < 0) = true:=decide_eq_true (by omega)
  have HG:=Lib.hid hgl;clear hgl hgb;go_wp2_with fail;go_ret3;obtain ⟨h1,h2,h3⟩:=HBF.out;exact ⟨sx,sy,HC.out,P,gl,h1,h2,h3,.inl ⟨HG.out,rfl⟩,hbw⟩
 ·have d2 : decide (gb < 0) = false:=decide_eq_false (by omega)
  obtain ⟨q,hq⟩ : ∃ q,q = pb ++ [gh]:=⟨_,rfl⟩
  rw [← hq] at hgl;have HG:=Lib.hid hgl;have hql:=HBF.out.2.2 q hgl;have hrel0 : Hid (∃ p,PathE P gb gh p ∧ q = p ++ ([] : List Int).reverse):=Lib.hid ⟨q,.inr ⟨k0,sb,pb,hgb,hpb,hq⟩,by simp⟩;have HXB : Hid (w.heap.size ≤ xb ∧ xb < w3.heap.size):=Lib.hid ⟨hwz,hxb.lt⟩
  have HAN : Hid (∀ a,A = some a → some a = some ⟨a.block,a.off,none⟩):=Lib.hid (fun a ea => by
   rcases Nat.eq_zero_or_pos n with h0 | h0
   ·have:=HP.out.le.len; have:=HP.out.n; have:=(List.getElem?_eq_some_iff.1 hpb).1; omega
   ·obtain ⟨b',off',e',_⟩:=hrow3.2 h0
    rw [ea] at e'; injection e' with e'; subst e'; rfl)
  have HQ0 : Hid (0 < q.length):=Lib.hid (by rw [hq]; simp);clear hgl hgb hpb hq x0 x1 x2 x3 x4 x5 x7;go_wp2_with fail;clear x6 d2
  go_loopw [9] (fun v wr => ∃ (os : List Int) (m : Nat) (s : GS) (b h : Int) (B : Option Addr) (bc : Nat),v = .slice B m bc ∧ wr.ownsRow w3.heap.size 39 2 (.slice B m bc) m (prs (oneP os)) ∧ Blk wr xb 76 #[.int .i64 s.x,.int .i64 s.y,.int .i64 s.rise,.bool s.held,.int .i64 s.mask,.int .i64 s.fin,.int .i64 b,.int .i64 h] ∧ Row wr 0 8 A n (E.flatMap encX) ∧ Below w.heap.size w wr ∧ w3.heap.size ≤ wr.heap.size ∧ m ≤ q.length ∧ Hid (os.length = m ∧ ∃ p,PathE P b h p ∧ q = p ++ os.reverse)) (fun v _ => q.length - lenV v)
  case atStart => exact ⟨[],0,gs,gb,gh,none,0,rfl,World.ownsRow_nil _ _ _ _,hxb,row_down hrow3,hbw,Nat.le_refl _,Nat.zero_le _,Lib.hid ⟨rfl,hrel0.out⟩⟩
  case round =>
   clear hxb hrow3 hbw hrel0 zx;obtain ⟨os,m,s,b,h,B,bc,rfl,hown,hxb,hrow,hbw,hzw,hmq,HR⟩:=hrel
   obtain ⟨x0,x1,x2,x3,x4,x5,x6,x7⟩ : _ ∧ _ ∧ _ ∧ _ ∧ _ ∧ _ ∧ _ ∧ _:=⟨hxb.cell 0,hxb.cell 1,hxb.cell 2,hxb.cell 3,hxb.cell 4,hxb.cell 5,hxb.cell 6,hxb.cell 7⟩
   simp only [Q0,Q2,Q1] at x0 x1 x2 x3 x4 x5 x6 x7;have zx:=hxb.lt
   by_cases hb0 : 0 ≤ b
   ·have d2 : decide (0 ≤ b) = true:=decide_eq_true hb0
    have HPB : Hid (∃ (k : Nat) (sk : GS) (pk : List Int),b = k ∧ P[k]? = some (sk,pk) ∧ q = (pk ++ [h]) ++ os.reverse):=Lib.hid (by
     obtain ⟨_,p,hp,e⟩:=HR.out;rcases hp with ⟨hb,_⟩ | ⟨k,sk,pk,hk,hpk,rfl⟩
     ·omega
     ·exact ⟨k,sk,pk,hk,hpk,e⟩)
    obtain ⟨k,sk,pk,hbk,hpk,hqk⟩:=HPB.out;subst hbk
    have hkn : k < n:=by
     have h1:=(List.getElem?_eq_some_iff.1 hpk).1;have h2:=HP.out.le.len;have h3:=HP.out.n;omega
    obtain ⟨⟨es,eb,eh⟩,he⟩ : ∃ e,E[k]? = some e:=⟨_,List.getElem?_eq_getElem (by rw [HP.out.n]; exact hkn)⟩
    have hlk:=(HP.out.le.st k _ sk pk he hpk).2;simp only at hlk
    have hmq1 : m + 1 ≤ q.length:=by
     have h1:=HR.out.1;rw [hqk]; simp; omega
    have HRN : Hid ((os ++ [h]).length = m + 1 ∧ ∃ p,PathE P eb eh p ∧ q = p ++ (os ++ [h]).reverse):=Lib.hid ⟨by rw [List.length_append,HR.out.1]; rfl,pk,by
     rcases hlk with ⟨a1,a2⟩ | ⟨k',s',p',a1,_,a3,a4⟩
     ·exact .inl ⟨a1,a2⟩
     ·exact .inr ⟨k',s',p',a1,a3,a4⟩,by rw [hqk]; simp⟩
    have HE:=Lib.hid he
    have hlb1 : (m + 1) * 16 ≤ 140737488355328:=by omega
    have hlb2 : m + 1 ≤ 9223372036854775807:=by omega
    clear hpk hqk he hlk HPB
    go_wp2_with (at_builtin; go_must (refine wpList_app (lo:=w3.heap.size) (base:=w3.heap.size) (n:=m) (xs:=prs (oneP os)) _ _ rfl _ _ ty_prs rfl (by repeat (first | exact hown | refine World.ownsRow.alloc ?_ _ | refine own_drewN ?_ _ | refine World.ownsRow.drew ?_)) rfl (by first | exact row_new' _ (by first | rfl | simp) (by first | omega | (simp; omega)) rfl | exact row_newN _ _ (by first | rfl | simp) (by first | omega | (simp; omega)) rfl | exact row_newD _ (by first | rfl | simp) (by first | omega | (simp; omega)) rfl) rfl rfl (by first | omega | decide) (by first | omega | decide) (by first | omega | (simp; omega)) ?_))
    intro A5 c5 w8 hown8 hg8 _;have hg8' : wr.grownBy w8 (Value.slice B m bc).ownBlock:=grown_trans' (World.grownBy_alloc _ _ _) hg8
    have far : ∀ r,(Value.slice B m bc).ownBlock = some r → w3.heap.size ≤ r:=fun r hr => (hown.lt r hr).1
    have hx8 : Blk w8 xb 76 #[.int .i64 s.x,.int .i64 s.y,.int .i64 s.rise,.bool s.held,.int .i64 s.mask,.int .i64 s.fin,.int .i64 (k : Int),.int .i64 h]:=(hg8'.block _ hxb.lt (fun e => by have:=far _ (by first | exact e | exact e.symm); have:=HXB.out; omega)).trans hxb;have hr8 : Row w8 0 8 A n (E.flatMap encX):=hrow.growG hg8' (fun h0 a ea e => by have:=far _ e.symm; have:=hRX.out a.block a.off (by rw [ea]; exact HAN.out a ea) h0; have:=HXB.out; omega);have hb8:=hbw.grown hg8' hbw.size (fun r hr => by have:=far r hr; have:=HXB.out; omega);have hz8:=hg8'.size;clear x0 x1 x2 x3 x4 x5 x6 x7 zx hxb hrow hbw hg8 hg8' far hown;obtain ⟨b',off,rfl,hbb,hcl⟩:=reach_at hr8 HP.out.n hkn;obtain ⟨c0,c1,c2,c3,c4,c5',c6,c7⟩:=hcl _ HE.out;simp only at c0 c1 c2 c3 c4 c5' c6 c7
    obtain ⟨x0,x1,x2,x3,x4,x5,x6,x7⟩ : _ ∧ _ ∧ _ ∧ _ ∧ _ ∧ _ ∧ _ ∧ _:=⟨hx8.cell 0,hx8.cell 1,hx8.cell 2,hx8.cell 3,hx8.cell 4,hx8.cell 5,hx8.cell 6,hx8.cell 7⟩
    simp only [Q0,Q2,Q1] at x0 x1 x2 x3 x4 x5 x6 x7
    obtain ⟨z0,z1,z2,z3,z4,z5,z6,z7⟩ : _ ∧ _ ∧ _ ∧ _ ∧ _ ∧ _ ∧ _ ∧ _:=⟨hx8.thaw 0,hx8.thaw 1,hx8.thaw 2,hx8.thaw 3,hx8.thaw 4,hx8.thaw 5,hx8.thaw 6,hx8.thaw 7⟩
    have zx:=hx8.lt;have HX9 : Hid (Blk ((((((((w8.setCell ⟨xb,0,none⟩ (.int .i64 es.x)).setCell ⟨xb,1,none⟩ (.int .i64 es.y)).setCell ⟨xb,2,none⟩ (.int .i64 es.rise)).setCell ⟨xb,3,none⟩ (.bool es.held)).setCell ⟨xb,4,none⟩ (.int .i64 es.mask)).setCell ⟨xb,5,none⟩ (.int .i64 es.fin)).setCell ⟨xb,6,none⟩ (.int .i64 eb)).setCell ⟨xb,7,none⟩ (.int .i64 eh)) xb 76 #[.int .i64 es.x,.int .i64 es.y,.int .i64 es.rise,.bool es.held,.int .i64 es.mask,.int .i64 es.fin,.int .i64 eb,.int .i64 eh]):=Lib.hid (by simpa using ((((((((hx8).poke 0 (.int .i64 es.x)).poke 1 (.int .i64 es.y)).poke 2 (.int .i64 es.rise)).poke 3 (.bool es.held)).poke 4 (.int .i64 es.mask)).poke 5 (.int .i64 es.fin)).poke 6 (.int .i64 eb)).poke 7 (.int .i64 eh));have HO9 : Hid (((((((((w8.setCell ⟨xb,0,none⟩ (.int .i64 es.x)).setCell ⟨xb,1,none⟩ (.int .i64 es.y)).setCell ⟨xb,2,none⟩ (.int .i64 es.rise)).setCell ⟨xb,3,none⟩ (.bool es.held)).setCell ⟨xb,4,none⟩ (.int .i64 es.mask)).setCell ⟨xb,5,none⟩ (.int .i64 es.fin)).setCell ⟨xb,6,none⟩ (.int .i64 eb)).setCell ⟨xb,7,none⟩ (.int .i64 eh)).ownsRow w3.heap.size 39 2 (.slice A5 (m + 1) c5) (m + 1) (prs (oneP (os ++ [h])))):=Lib.hid (by rw [oneP_app,prs_app]; exact own_keepG (own_keepG (own_keepG (own_keepG (own_keepG (own_keepG (own_keepG (own_keepG (hown8) (grown_pokeG _ xb 0 (.int .i64 es.x)) (fun a r ha hr => by injection ha with ha; subst ha; have:=(hown8.lt r hr).1; have:=HXB.out; omega)) (grown_pokeG _ xb 1 (.int .i64 es.y)) (fun a r ha hr => by injection ha with ha; subst ha; have:=(hown8.lt r hr).1; have:=HXB.out; omega)) (grown_pokeG _ xb 2 (.int .i64 es.rise)) (fun a r ha hr => by injection ha with ha; subst ha; have:=(hown8.lt r hr).1; have:=HXB.out; omega)) (grown_pokeG _ xb 3 (.bool es.held)) (fun a r ha hr => by injection ha with ha; subst ha; have:=(hown8.lt r hr).1; have:=HXB.out; omega)) (grown_pokeG _ xb 4 (.int .i64 es.mask)) (fun a r ha hr => by injection ha with ha; subst ha; have:=(hown8.lt r hr).1; have:=HXB.out; omega)) (grown_pokeG _ xb 5 (.int .i64 es.fin)) (fun a r ha hr => by injection ha with ha; subst ha; have:=(hown8.lt r hr).1; have:=HXB.out; omega)) (grown_pokeG _ xb 6 (.int .i64 eb)) (fun a r ha hr => by injection ha with ha; subst ha; have:=(hown8.lt r hr).1; have:=HXB.out; omega)) (grown_pokeG _ xb 7 (.int .i64 eh)) (fun a r ha hr => by injection ha with ha; subst ha; have:=(hown8.lt r hr).1; have:=HXB.out; omega));have HB9 : Hid (Below w.heap.size w ((((((((w8.setCell ⟨xb,0,none⟩ (.int .i64 es.x)).setCell ⟨xb,1,none⟩ (.int .i64 es.y)).setCell ⟨xb,2,none⟩ (.int .i64 es.rise)).setCell ⟨xb,3,none⟩ (.bool es.held)).setCell ⟨xb,4,none⟩ (.int .i64 es.mask)).setCell ⟨xb,5,none⟩ (.int .i64 es.fin)).setCell ⟨xb,6,none⟩ (.int .i64 eb)).setCell ⟨xb,7,none⟩ (.int .i64 eh))):=Lib.hid (Below.setCell (Below.setCell (Below.setCell (Below.setCell (Below.setCell (Below.setCell (Below.setCell (Below.setCell (hb8) (p:=⟨xb,0,none⟩) HXB.out.1 (.int .i64 es.x)) (p:=⟨xb,1,none⟩) HXB.out.1 (.int .i64 es.y)) (p:=⟨xb,2,none⟩) HXB.out.1 (.int .i64 es.rise)) (p:=⟨xb,3,none⟩) HXB.out.1 (.bool es.held)) (p:=⟨xb,4,none⟩) HXB.out.1 (.int .i64 es.mask)) (p:=⟨xb,5,none⟩) HXB.out.1 (.int .i64 es.fin)) (p:=⟨xb,6,none⟩) HXB.out.1 (.int .i64 eb)) (p:=⟨xb,7,none⟩) HXB.out.1 (.int .i64 eh));have HR9 : Hid (Row ((((((((w8.setCell ⟨xb,0,none⟩ (.int .i64 es.x)).setCell ⟨xb,1,none⟩ (.int .i64 es.y)).setCell ⟨xb,2,none⟩ (.int .i64 es.rise)).setCell ⟨xb,3,none⟩ (.bool es.held)).setCell ⟨xb,4,none⟩ (.int .i64 es.mask)).setCell ⟨xb,5,none⟩ (.int .i64 es.fin)).setCell ⟨xb,6,none⟩ (.int .i64 eb)).setCell ⟨xb,7,none⟩ (.int .i64 eh)) 0 8 (some ⟨b',off,none⟩) n (E.flatMap encX)):=Lib.hid (((((((((hr8).growG (grown_pokeG _ xb 0 (.int .i64 es.x)) (fun h0 a ea e => by injection e with e; have:=hRX.out a.block a.off (by rw [ea]; exact HAN.out a ea) h0; omega)).growG (grown_pokeG _ xb 1 (.int .i64 es.y)) (fun h0 a ea e => by injection e with e; have:=hRX.out a.block a.off (by rw [ea]; exact HAN.out a ea) h0; omega)).growG (grown_pokeG _ xb 2 (.int .i64 es.rise)) (fun h0 a ea e => by injection e with e; have:=hRX.out a.block a.off (by rw [ea]; exact HAN.out a ea) h0; omega)).growG (grown_pokeG _ xb 3 (.bool es.held)) (fun h0 a ea e => by injection e with e; have:=hRX.out a.block a.off (by rw [ea]; exact HAN.out a ea) h0; omega)).growG (grown_pokeG _ xb 4 (.int .i64 es.mask)) (fun h0 a ea e => by injection e with e; have:=hRX.out a.block a.off (by rw [ea]; exact HAN.out a ea) h0; omega)).growG (grown_pokeG _ xb 5 (.int .i64 es.fin)) (fun h0 a ea e => by injection e with e; have:=hRX.out a.block a.off (by rw [ea]; exact HAN.out a ea) h0; omega)).growG (grown_pokeG _ xb 6 (.int .i64 eb)) (fun h0 a ea e => by injection e with e; have:=hRX.out a.block a.off (by rw [ea]; exact HAN.out a ea) h0; omega)).growG (grown_pokeG _ xb 7 (.int .i64 eh)) (fun h0 a ea e => by injection e with e; have:=hRX.out a.block a.off (by rw [ea]; exact HAN.out a ea) h0; omega));clear hcl hown8 hx8 hr8 hb8;go_wp2_with fail;go_roundw
    case rel => exact ⟨os ++ [h],m + 1,es,eb,eh,A5,c5,rfl,HO9.out,HX9.out,HR9.out,HB9.out,by simp; omega,hmq1,HRN⟩
    case measure => simp only [lenV]; omega
   ·have d2 : decide (0 ≤ b) = false:=decide_eq_false hb0
    have HQ : Hid (q = os.reverse):=Lib.hid (by
     obtain ⟨_,p,hp,e⟩:=HR.out;rcases hp with ⟨_,rfl⟩ | ⟨k,_,_,hk,_⟩
     ·simpa using e
     ·omega)
    have hmm : m = q.length:=by
     have h1:=HR.out.1;have h2:=congrArg List.length HQ.out;rw [List.length_reverse] at h2;omega
    have HMM:=Lib.hid hmm
    have hm0 : 0 < m:=by have:=HQ0.out; omega
    obtain ⟨bb,rfl,hbb,-,-,-⟩:=ownBlk hown hm0;have hRV:=reverseP_any w3.heap.size bb bc m (oneP os) wr wr ⟨hown,World.grownBy.refl _ _,by rw [oneP_len]; exact HR.out.1⟩ (by omega);have HRQ : Hid ((oneP os).reverse = oneP q):=Lib.hid (by rw [oneP_rev,← HQ.out]);have HB:=Lib.hid hbw;clear hmm x0 x1 x2 x3 x4 x5 x7 hxb hrow hown;go_wp2_with fail;refine hRV.mono ?_;clear hRV x6 zx;rintro e w9 ⟨rfl,hC⟩;rw [HRQ.out] at hC;have hbw9:=HB.out.grown hC.gr hbw.size (fun r hr => by injection hr with hr; have:=HXB.out; omega)
    have htd:=tidy_any (some ⟨bb,0,none⟩) bc w3.heap.size (oneP q) w9 (by rw [oneP_len,← HMM.out]; exact Row.of_own hC.own) (by rw [oneP_len]; omega) (fun p hp => by
     obtain ⟨x,_,rfl⟩:=List.mem_map.1 hp;show (0 : Int) ≤ 1
     decide) (by rw [psum_oneP]; omega)
    rw [oneP_len,← HMM.out] at htd;clear hC hbw;go_wp2_with fail;refine htd.mono ?_;clear htd;rintro e w10 ⟨A',c',rfl,hown',hb'⟩;have HO:=Lib.hid (own_downG hown' hbw9.size);have hbw10:=below_up hbw9 hb';clear hown' hb';go_wp2_with fail;go_ret3;obtain ⟨h1,h2,h3⟩:=HBF.out;exact ⟨sx,sy,HC.out,P,gl,h1,h2,h3,.inr ⟨q,A',c',HG.out,rfl,HO.out⟩,hbw10⟩
end Go.Proofs.YtkchacgkjdeiaaaGreatDoor
