/- Texts of this seat, laid together: HpB HpC HpD HpE. -/
import Derived.Deep.DeepCutAuto
import Derived.Test.YtkchacgkjdeiaaaGreatDoorBf35
import Derived.Test.YtkchacgkjdeiaaaGreatDoorBf36
/- The queue of a measure at any number of items: its methods. -/
set_option linter.unusedVariables false
set_option linter.unusedSimpArgs false
namespace Go.Proofs.YtkchacgkjdeiaaaGreatDoor
open Go.RowKit

structure ItE where
  t : Int
  d : Int
  s : Nat
deriving Inhabited
def encI (x : ItE) : List Value:=[.int .i64 x.t,.int .i64 x.d,.int .i64 (x.s : Int)]
theorem encI_len (x : ItE) : (encI x).length = 3:=rfl
def ltI (a b : ItE) : Bool:=if a.t = b.t then decide (a.d < b.d) else decide (a.t < b.t)
theorem ordI : OrdH ltI:=⟨fun a b h => by
  unfold ltI at *
  split at h <;> rename_i e
  ·rw [if_pos e.symm]; simp at h ⊢; omega
  ·rw [if_neg (Ne.symm e)]; simp at h ⊢; omega,fun a b c h1 h2 => by
  unfold ltI at *
  split at h1 <;> split at h2 <;> rename_i e1 e2 <;> simp at h1 h2 <;> split <;> rename_i e3 <;> simp <;> omega⟩
structure QuW (W : World) (base q : Nat) (A : Option Addr) (n c : Nat) (us : List ItE) : Prop where
  box : Blk W q 306 #[.slice A n c]
  own : W.ownsRow base 310 3 (.slice A n c) n (us.flatMap encI)
  len : us.length = n
theorem flat_putI (us : List ItE) (m : Nat) (hm : m < us.length) (v : ItE) : (((us.flatMap encI).set (m * 3) (.int .i64 v.t)).set (m * 3 + 1) (.int .i64 v.d)).set (m * 3 + 2) (.int .i64 (v.s : Int)) = (us.set m v).flatMap encI:=by
 induction us generalizing m with
 | nil => simp at hm
 | cons x us ih =>
  cases m with
  | zero => simp [encI]
  | succ m =>
   simp only [List.flatMap_cons,Q5];rw [← ih m (by simpa using hm)];rw [show (m + 1) * 3 = 3 + m * 3 by omega];simp only [encI,List.cons_append,List.nil_append,show 3 + m * 3 = m * 3 + 1 + 1 + 1 by omega,show m * 3 + 1 + 1 + 1 + 1 = (m * 3 + 1) + 1 + 1 + 1 by omega,show m * 3 + 1 + 1 + 1 + 2 = (m * 3 + 2) + 1 + 1 + 1 by omega,Q5]
theorem flat_getI (us : List ItE) (m : Nat) (hm : m < us.length) : (us.flatMap encI)[m * 3]? = some (.int .i64 us[m].t) ∧ (us.flatMap encI)[m * 3 + 1]? = some (.int .i64 us[m].d) ∧ (us.flatMap encI)[m * 3 + 2]? = some (.int .i64 (us[m].s : Int)):=by
 induction us generalizing m with
 | nil => simp at hm
 | cons x us ih =>
  cases m with
  | zero => simp [encI]
  | succ m =>
   have:=ih m (by simpa using hm);simp only [List.flatMap_cons,encI,List.cons_append,List.nil_append,show (m + 1) * 3 = m * 3 + 1 + 1 + 1 by omega,show m * 3 + 1 + 1 + 1 + 1 = (m * 3 + 1) + 1 + 1 + 1 by omega,show m * 3 + 1 + 1 + 1 + 2 = (m * 3 + 2) + 1 + 1 + 1 by omega,Q1,List.getElem_cons_succ];exact this
def obk (A : Option Addr) : Option Nat:=(Value.slice A 0 0).ownBlock
theorem obk_is (A : Option Addr) (n c : Nat) : (Value.slice A n c).ownBlock = obk A:=by cases A <;> rfl
structure QG (base q : Nat) (A A' : Option Addr) (w w' : World) : Prop where
  f : QF base w w'
  k : QK q (obk A) w w'
  n : ∀ j, obk A' = some j → obk A = some j ∨ w.heap.size ≤ j
section
variable {W W' w w' w'' : World} {base q n c b : Nat} {A A' A'' : Option Addr} {us : List ItE} {t : TypeId} {cs : Array Value}
theorem QG.refl (base q : Nat) (A : Option Addr) (w : World) : QG base q A A w w:=⟨QF.refl _ _,QK.refl _ _ _,fun _ h => .inl h⟩
theorem QG.trans (h : QG base q A A' w w') (k : QG base q A' A'' w' w'') : QG base q A A'' w w'' :=
 ⟨h.f.trans k.f,⟨Nat.le_trans h.k.1 k.k.1,fun b hb h1 h2 => (k.k.2 b (Nat.lt_of_lt_of_le hb h.k.1) h1 (fun e => by
  rcases h.n b e with e1 | e1
  ·exact h2 e1
  ·omega)).trans (h.k.2 b hb h1 h2)⟩,fun j hj => by
  rcases k.n j hj with e | e
  ·exact h.n j e
  ·exact .inr (Nat.le_trans h.k.1 e)⟩
theorem QG.drewN (h : QG base q A A' w w') (m : Nat) : QG base q A A' w (w'.drewN m):=⟨⟨below_drewN' h.f.bel m,h.f.block⟩,⟨h.k.1,h.k.2⟩,h.n⟩
theorem QG.drew (h : QG base q A A' w w') : QG base q A A' w w'.drew:=h.drewN 1
theorem Blk.qg (h : Blk w b t cs) (k : QG base q A A' w w') (h1 : b ≠ q) (h2 : obk A ≠ some b) : Blk w' b t cs:=h.qk k.k h1 h2
theorem QG.far (k : QG base q A A' w w') (hb : b < w.heap.size) (h2 : obk A ≠ some b) : obk A' ≠ some b:=fun e => by
 rcases k.n b e with e1 | e1
 ·exact h2 e1
 ·omega
theorem QuW.at (h : QuW W base q A n c us) {m : Nat} (hm : m < us.length) : ∃ b,A = some ⟨b,0,none⟩ ∧ base ≤ b ∧ b < W.heap.size ∧ (W.cell? ⟨b,m * 3,none⟩ = some (.int .i64 us[m].t) ∧ W.cell? ⟨b,m * 3 + 1,none⟩ = some (.int .i64 us[m].d) ∧ W.cell? ⟨b,m * 3 + 2,none⟩ = some (.int .i64 (us[m].s : Int))) ∧ ∀ j,W.frozen? ⟨b,j,none⟩ = false:=by
 obtain ⟨b,e,h1,h2,h3,h4⟩:=ownBlk h.own (by have:=h.len; omega);obtain ⟨g0,g1,g2⟩:=flat_getI us m hm;exact ⟨b,e,h1,h2,⟨h3 _ _ g0,h3 _ _ g1,h3 _ _ g2⟩,h4⟩
theorem QuW.box0 (h : QuW W base q A n c us) : W.cell? ⟨q,0,none⟩ = some (.slice A n c):=h.box.w1'
theorem QuW.below (h : QuW W base q A n c us) (hb : Below W.heap.size W W') : QuW W' base q A n c us:=⟨h.box.below hb,own_keep h.own hb,h.len⟩
theorem QuW.alloc (h : QuW W base q A n c us) (o : Obj) : QuW (W.alloc o) base q A n c us:=⟨h.box.alloc o,h.own.alloc o,h.len⟩
theorem QuW.drew (h : QuW W base q A n c us) : QuW W.drew base q A n c us:=⟨h.box,h.own,h.len⟩
theorem QuW.drewN (h : QuW W base q A n c us) (m : Nat) : QuW (W.drewN m) base q A n c us:=⟨h.box,h.own,h.len⟩
theorem QuW.put (h : QuW W base q (some ⟨b,0,none⟩) n c us) {m : Nat} (hm : m < n) (v : ItE) : QuW (((W.setCell ⟨b,m * 3,none⟩ (.int .i64 v.t)).setCell ⟨b,m * 3 + 1,none⟩ (.int .i64 v.d)).setCell ⟨b,m * 3 + 2,none⟩ (.int .i64 (v.s : Int))) base q (some ⟨b,0,none⟩) n c (us.set m v) ∧ W.grownBy (((W.setCell ⟨b,m * 3,none⟩ (.int .i64 v.t)).setCell ⟨b,m * 3 + 1,none⟩ (.int .i64 v.d)).setCell ⟨b,m * 3 + 2,none⟩ (.int .i64 (v.s : Int))) (some b):=by
 have s0:=h.own.stored (m * 3) (.int .i64 v.t);have s1:=s0.1.stored (m * 3 + 1) (.int .i64 v.d);have s2:=s1.1.stored (m * 3 + 2) (.int .i64 (v.s : Int));rw [flat_putI us m (by rw [h.len]; exact hm) v] at s2;have hg:=grown_trans' (grown_trans' s0.2 s1.2) s2.2;exact ⟨⟨h.box.other hg (own_kind h.own) (by decide),s2.1,by rw [List.length_set]; exact h.len⟩,hg⟩
theorem QG.of_row (h : w.ownsRow base 310 3 (.slice A n c) n (us.flatMap encI)) (hg : w.grownBy w' (obk A)) (hl : base ≤ w.heap.size) : QG base q A A w w' :=
 ⟨QF.of_grown hg (by rw [← obk_is A n c]; exact own_kind h) (.inr rfl) hl (by rw [← obk_is A n c]; exact own_base h),QK.of_grown hg,fun _ e => .inl e⟩
theorem QuW.swap (h : QuW W base q (some ⟨b,0,none⟩) n c us) {i j : Nat} {x y : ItE} (hx : us[i]? = some x) (hy : us[j]? = some y) (hl : base ≤ W.heap.size) :
  QuW ((((((W.setCell ⟨b,i * 3,none⟩ (.int .i64 y.t)).setCell ⟨b,i * 3 + 1,none⟩ (.int .i64 y.d)).setCell ⟨b,i * 3 + 2,none⟩ (.int .i64 (y.s : Int))).setCell ⟨b,j * 3,none⟩ (.int .i64 x.t)).setCell ⟨b,j * 3 + 1,none⟩ (.int .i64 x.d)).setCell ⟨b,j * 3 + 2,none⟩ (.int .i64 (x.s : Int))) base q (some ⟨b,0,none⟩) n c (swapAt us i j) ∧
  QG base q (some ⟨b,0,none⟩) (some ⟨b,0,none⟩) W ((((((W.setCell ⟨b,i * 3,none⟩ (.int .i64 y.t)).setCell ⟨b,i * 3 + 1,none⟩ (.int .i64 y.d)).setCell ⟨b,i * 3 + 2,none⟩ (.int .i64 (y.s : Int))).setCell ⟨b,j * 3,none⟩ (.int .i64 x.t)).setCell ⟨b,j * 3 + 1,none⟩ (.int .i64 x.d)).setCell ⟨b,j * 3 + 2,none⟩ (.int .i64 (x.s : Int))):=by
 obtain ⟨hi,e1⟩:=List.getElem?_eq_some_iff.1 hx;obtain ⟨hj,e2⟩:=List.getElem?_eq_some_iff.1 hy;have hn:=h.len;have a1:=h.put (show i < n by omega) y;have a2:=a1.1.put (show j < n by omega) x;rw [show swapAt us i j = (us.set i y).set j x by rw [swapAt_at hi hj,e1,e2]];exact ⟨a2.1,QG.of_row h.own (grown_trans' a1.2 a2.2) hl⟩
end
set_option maxHeartbeats 2000000 in
theorem qless_any (base q n c i k : Nat) (A : Option Addr) (us : List ItE) (w : World) (h : QuW w base q A n c us) (hi : i < n) (hk : k < n) :
  Calls Tryz.prog 241 #[.slice A n c,.int .i64 i,.int .i64 k] w fun e w' => e = .returned (.bool (ltI (atF us i) (atF us k))) ∧ ∃ n,w' = w.drewN n:=by
 have hn:=h.len
 have hi' : i < us.length:=by omega
 have hk' : k < us.length:=by omega
 rw [atF_lt hi',atF_lt hk'];obtain ⟨b,rfl,hb1,hb2,⟨c0,c1,c2⟩,-⟩:=h.at hi';obtain ⟨b',e',-,-,⟨d0,d1,d2⟩,-⟩:=h.at hk'
 obtain rfl : b' = b:=by injection e' with e'; injection e' with e'; exact e'.symm
 clear e' hb1 h c2 d2 hn;generalize us[i] = x at *;generalize us[k] = y at *;clear hi' hk'
 by_cases e : x.t = y.t
 ·have hd : (x.t != y.t) = false:=by simp [e]
  have hl : ltI x y = decide (x.d < y.d):=if_pos e;rw [hl];clear hl e
  go_enter Tryz.func241,Tryz.ntmps241
  go_upto_region 1 with (fail)
  go_quiet (fail)
  go_wp2_with fail
  go_quiet (fail)
  go_wp2_with fail
  go_returns
  exact ⟨rfl,_,World.drewN_drewN _ _ _⟩
 ·have hd : (x.t != y.t) = true:=by simpa using e
  have hl : ltI x y = decide (x.t < y.t):=if_neg e;rw [hl];clear hl e
  go_enter Tryz.func241,Tryz.ntmps241
  go_upto_region 1 with (fail)
  go_quiet (fail)
  go_wp2_with fail
  go_quiet (fail)
  go_wp2_with fail
  go_returns
  exact ⟨rfl,_,World.drewN_drewN _ _ _⟩
def FnQ (q : Nat) : Value:=.iface 308 (.pointer (some ⟨q,0,none⟩))
set_option maxHeartbeats 2000000 in
theorem qswap_any (base q n c i k : Nat) (A : Option Addr) (us : List ItE) (w : World) (h : QuW w base q A n c us) (hi : i < n) (hk : k < n) (hl : base ≤ w.heap.size) :
  Calls Tryz.prog 242 #[.slice A n c,.int .i64 i,.int .i64 k] w fun e w' => e = .returned (.tuple #[]) ∧ QuW w' base q A n c (swapAt us i k) ∧ QG base q A A w w':=by
 have hn:=h.len
 have hi' : i < us.length:=by omega
 have hk' : k < us.length:=by omega
 obtain ⟨b,rfl,hb1,hb2,⟨c0,c1,c2⟩,hf⟩:=h.at hi';obtain ⟨b',e',-,-,⟨d0,d1,d2⟩,-⟩:=h.at hk'
 obtain rfl : b' = b:=by injection e' with e'; injection e' with e'; exact e'.symm
 have HS:=Lib.hid (h.swap (List.getElem?_eq_getElem hi') (List.getElem?_eq_getElem hk') hl);have f0:=hf (i * 3);have f1:=hf (i * 3 + 1);have f2:=hf (i * 3 + 2);have g0:=hf (k * 3);have g1:=hf (k * 3 + 1);have g2:=hf (k * 3 + 2);clear e' hb1 h hn hf hl;generalize us[i] = x at *;generalize us[k] = y at *;clear hi' hk';rcases Nat.lt_trichotomy i k with hik | hik | hik
 ·go_enter Tryz.func242,Tryz.ntmps242
  go_big_region
  go_returns
  exact ⟨rfl,HS.out.1.drew,HS.out.2.drew⟩
 ·subst hik
  rw [c0] at d0;rw [c1] at d1;rw [c2] at d2
  have e0 : x.t = y.t:=by injection d0 with d0; injection d0
  have e1 : x.d = y.d:=by injection d1 with d1; injection d1
  have e2 : (x.s : Int) = (y.s : Int):=by injection d2 with d2; injection d2
  have exy : x = y:=by
   cases x; cases y
   simp only at e0 e1 e2;have e2:=Int.ofNat.inj e2;subst e0 e1 e2;rfl
  subst exy;clear d0 d1 d2 e0 e1 e2
  go_enter Tryz.func242,Tryz.ntmps242
  go_big_region
  go_returns
  exact ⟨rfl,HS.out.1.drew,HS.out.2.drew⟩
 ·go_enter Tryz.func242,Tryz.ntmps242
  go_big_region
  go_returns
  exact ⟨rfl,HS.out.1.drew,HS.out.2.drew⟩
end Go.Proofs.YtkchacgkjdeiaaaGreatDoor
/- container/heap at a queue of any number of items. -/
namespace Go.Proofs.YtkchacgkjdeiaaaGreatDoor
open Go.RowKit

theorem meth_less {q : Nat} {v : Value} {w : World} (h : w.cell? ⟨q, 0, none⟩ = some v) : (method 442 308 (.pointer (some ⟨q, 0, none⟩)) "Less").run Tryz.prog w = .ok (241, v) w :=
 Eq.trans (show _ = (Sem.load .plain ⟨q, 0, none⟩ fun v => .pure (241, v)).run Tryz.prog w by kernel_rfl) (load_pr h)
def UpPost (base q n c : Nat) (A : Option Addr) (us : List ItE) (w : World) (e : Ending) (w' : World) : Prop:=e = .returned (.tuple #[]) ∧ ∃ us',QuW w' base q A n c us' ∧ us'.Perm us ∧ HeapL ltI us' ∧ QG base q A A w w'
set_option maxRecDepth 100000 in
set_option maxHeartbeats 2000000 in
theorem hup_any (base q n c j : Nat) (A : Option Addr) (us : List ItE) (w : World) (h : QuW w base q A n c us) (hj : j < n) (hn : n ≤ 1000000000000) (hu : UpF ltI (atF us) n j) (hl : base ≤ w.heap.size) :
  Calls Tryz.prog 216 #[FnQ q,.int .i64 j] w (UpPost base q n c A us w):=by
 unfold FnQ
 go_enter Tryz.func216,Tryz.ntmps216
 go_wp2_with fail
 go_loopw [1] (fun v wr => ∃ (j : Nat) (us' : List ItE),v = .int .i64 j ∧ j < n ∧ QuW wr base q A n c us' ∧ Hid (us'.Perm us ∧ UpF ltI (atF us') n j) ∧ QG base q A A w wr) (fun v _ => (intOf v).toNat)
 case atStart => exact ⟨j,us,rfl,hj,h,Lib.hid ⟨List.Perm.refl _,hu⟩,QG.refl _ _ _ _⟩
 case round =>
  clear h hu hj;obtain ⟨j,us',rfl,hj,h,HU,hg⟩:=hrel;have hl' : base ≤ wr.heap.size:=Nat.le_trans hl hg.k.1;have q0:=h.box0;have hm:=meth_less q0;have hms:=meth_swap q0
  obtain ⟨i,hi⟩ : ∃ i,i = (j - 1) / 2:=⟨_,rfl⟩
  have w1 : IntKind.i64.wrap ((j : Int) - 1) = (j : Int) - 1:=IntWalk.i64_in _ ⟨by omega,by omega⟩
  by_cases hz : j = 0
  ·subst hz
   go_wp2_with fail
   go_returns
   exact ⟨rfl,us',h,HU.out.1,by have:=HU.out.2.zero; rw [← h.len] at this; exact this,hg⟩
  ·have w2 : ((j : Int) - 1).tdiv 2 = (i : Int):=by rw [Int.tdiv_eq_ediv_of_nonneg (by omega)]; omega
   have w3 : IntKind.i64.wrap ((i : Nat) : Int) = (i : Int):=IntWalk.i64_in _ ⟨by omega,by omega⟩
   have hij : ((i : Int) == (j : Int)) = false:=by simp; omega
   have hin : i < n:=by omega
   have HI:=Lib.hid hi;clear hi;go_wp2_with fail;refine (qless_any base q n c j i A us' _ h hj hin).mono ?_;rintro e w4 ⟨rfl,m,rfl⟩
   cases hlt : ltI (atF us' j) (atF us' i) with
   | false =>
    have HL:=Lib.hid hlt;clear hlt;go_wp2_with fail
    go_returns
    exact ⟨rfl,us',h.drewN m,HU.out.1,by have:=HU.out.2.stop (by rw [← HI.out]; exact HL.out); rw [← h.len] at this; exact this,hg.drewN m⟩
   | true =>
    have HL:=Lib.hid hlt;clear hlt;have q0:=(h.drewN m).box0;have hms:=meth_swap q0;go_wp2_with fail;refine (qswap_any base q n c i j A us' _ (h.drewN m) hin hj hl').mono ?_;rintro e w5 ⟨rfl,h5,hg5⟩;go_wp2_with fail;go_roundw
    case rel =>
     refine ⟨i,_,rfl,hin,h5,Lib.hid ⟨(swap_perm (by rw [h.len]; exact hin) (by rw [h.len]; exact hj)).trans HU.out.1,?_⟩,(hg.drewN m).trans hg5⟩;rw [atF_swap (by rw [h.len]; exact hin) (by rw [h.len]; exact hj)];have:=HU.out.2.step ordI (by omega) hj (by rw [← HI.out]; exact HL.out);rw [← HI.out] at this;exact this
    case measure => simp [intOf]; have:=HI.out; omega
def DownPost (base q n c m : Nat) (A : Option Addr) (us : List ItE) (w : World) (e : Ending) (w' : World) : Prop:=(∃ b,e = .returned (.bool b)) ∧ ∃ us',QuW w' base q A n c us' ∧ us'.Perm us ∧ HeapF ltI (atF us') m ∧ (∀ k,m ≤ k → atF us' k = atF us k) ∧ QG base q A A w w'
theorem kids {f : Nat → ItE} {n i k c : Nat} (h0 : 0 < k) (hp : (k - 1) / 2 = i) (hn : k < n) (h1 : c = 2 * i + 1) (ha : ltI (f c) (f c) = false) (hc : 2 * i + 2 < n → ltI (f (2 * i + 2)) (f c) = false) : ltI (f k) (f c) = false:=by
 have e : k = 2 * i + 1 ∨ k = 2 * i + 2:=by omega
 rcases e with e | e
 ·rw [e,← h1]; exact ha
 ·rw [e]; exact hc (by omega)
theorem ltI_self (x : ItE) : ltI x x = false:=by unfold ltI; rw [if_pos rfl]; simp
theorem kid2 {f : Nat → ItE} {n i k : Nat} (h0 : 0 < k) (hp : (k - 1) / 2 = i) (hc : ltI (f (2 * i + 2)) (f (2 * i + 1)) = true) : ltI (f k) (f (2 * i + 2)) = false:=by
 have e : k = 2 * i + 1 ∨ k = 2 * i + 2:=by omega
 rcases e with e | e
 ·rw [e]; exact ordI.asym _ _ hc
 ·rw [e]; exact ltI_self _
set_option maxRecDepth 100000 in
set_option maxHeartbeats 4000000 in
theorem hdown_any (base q n c m : Nat) (A : Option Addr) (us : List ItE) (w : World) (h : QuW w base q A n c us) (hm : m ≤ n) (hn : n ≤ 1000000000000) (hd : DownF ltI (atF us) m 0) (hl : base ≤ w.heap.size) :
  Calls Tryz.prog 217 #[FnQ q,.int .i64 0,.int .i64 m] w (DownPost base q n c m A us w):=by
 unfold FnQ
 go_enter Tryz.func217,Tryz.ntmps217
 go_wp2_with fail
 go_loopw [7] (fun v wr => ∃ (i : Nat) (us' : List ItE),v = .int .i64 i ∧ (i < n ∨ i = 0) ∧ QuW wr base q A n c us' ∧ Hid (us'.Perm us ∧ DownF ltI (atF us') m i ∧ ∀ k,m ≤ k → atF us' k = atF us k) ∧ QG base q A A w wr) (fun v _ => n - (intOf v).toNat)
 case atStart => exact ⟨0,us,rfl,.inr rfl,h,Lib.hid ⟨List.Perm.refl _,hd,fun _ _ => rfl⟩,QG.refl _ _ _ _⟩
 case round =>
  clear h hd;obtain ⟨i,us',rfl,hin,h,HU,hg⟩:=hrel;have hl' : base ≤ wr.heap.size:=Nat.le_trans hl hg.k.1;have q0:=h.box0;have hms:=meth_less q0;have w1 : IntKind.i64.wrap (2 * (i : Int)) = 2 * (i : Int):=IntWalk.i64_in _ ⟨by omega,by omega⟩;have w2 : IntKind.i64.wrap (2 * (i : Int) + 1) = 2 * (i : Int) + 1:=IntWalk.i64_in _ ⟨by omega,by omega⟩;have w3 : IntKind.i64.wrap (2 * (i : Int) + 1 + 1) = 2 * (i : Int) + 1 + 1:=IntWalk.i64_in _ ⟨by omega,by omega⟩
  by_cases hz : 2 * i + 1 < m
  ·have d1 : decide ((m : Int) ≤ 2 * (i : Int) + 1) = false:=by simp; omega
   by_cases h2 : 2 * i + 2 < m
   ·have d2 : decide (2 * (i : Int) + 1 + 1 < (m : Int)) = true:=by simp; omega
    obtain ⟨j1,hj1⟩ : ∃ j,j = 2 * i + 1:=⟨_,rfl⟩
    obtain ⟨j2,hj2⟩ : ∃ j,j = 2 * i + 2:=⟨_,rfl⟩
    have e1 : 2 * (i : Int) + 1 = (j1 : Int):=by omega
    have e2 : (j1 : Int) + 1 = (j2 : Int):=by omega
    rw [e1] at w2 w3 d1 d2;rw [e2] at w3 d2;have HJ:=Lib.hid (And.intro hj1 hj2)
    have hb1 : j1 < n:=by omega
    have hb2 : j2 < n:=by omega
    have hi' : i < n:=by omega
    clear d1 d2
    have d1 : decide (m ≤ j1) = false:=by simp; omega
    have d2 : decide (j2 < m) = true:=by simp; omega
    have HB : Hid (j1 < m ∧ j2 < m):=Lib.hid ⟨by omega,by omega⟩;clear hj1 hj2 h2 hz;go_wp2_with fail;refine (qless_any base q n c j2 j1 A us' _ h hb2 hb1).mono ?_;rintro e w4 ⟨rfl,m4,rfl⟩;have q0:=(h.drewN m4).box0;have hms:=meth_less q0;have hmw:=meth_swap q0
    cases hlt : ltI (atF us' j2) (atF us' j1) with
    | false =>
     have HL:=Lib.hid hlt;have HK : Hid (∀ k,0 < k → k < m → (k - 1) / 2 = i → ltI (atF us' k) (atF us' j1) = false):=Lib.hid (fun k h0 hk hp => kids h0 hp hk HJ.out.1 (ltI_self _) (fun _ => by rw [← HJ.out.2]; exact HL.out));clear hlt;go_wp2_with fail;refine (qless_any base q n c j1 i A us' _ (h.drewN m4) hb1 hi').mono ?_;rintro e w5 ⟨rfl,m5,rfl⟩;have q0:=(h.drewN (m4 + m5)).box0;have hmw:=meth_swap q0
     cases hlt : ltI (atF us' j1) (atF us' i) with
     | false =>
      have HL2:=Lib.hid hlt;clear hlt;go_wp2_with fail
      go_returns
      exact ⟨⟨_,rfl⟩,us',h.drewN (m4 + m5),HU.out.1,HU.out.2.1.stop ordI (.inl HJ.out.1) HK.out HL2.out,HU.out.2.2,hg.drewN (m4 + m5)⟩
     | true =>
      have HL2:=Lib.hid hlt;clear hlt;go_wp2_with fail;refine (qswap_any base q n c i j1 A us' _ (h.drewN (m4 + m5)) hi' hb1 hl').mono ?_;rintro e w6 ⟨rfl,h6,hg6⟩;go_wp2_with fail;go_roundw
      case rel =>
       have hli : i < us'.length:=by rw [h.len]; exact hi'
       have hlj : j1 < us'.length:=by rw [h.len]; exact hb1
       refine ⟨j1,_,rfl,.inl hb1,h6,Lib.hid ⟨(swap_perm hli hlj).trans HU.out.1,?_,fun k hk => ?_⟩,(hg.drewN (m4 + m5)).trans hg6⟩
       ·rw [atF_swap hli hlj]
        exact HU.out.2.1.step ordI (.inl HJ.out.1) HB.out.1 HK.out HL2.out
       ·rw [atF_swap hli hlj,swF_3 (by have:=HJ.out; have:=HB.out; omega) (by have:=HJ.out; have:=HB.out; omega)]
        exact HU.out.2.2 k hk
      case measure => simp [intOf]; have:=HJ.out; omega
    | true =>
     have HL:=Lib.hid hlt
     have HK : Hid (∀ k,0 < k → k < m → (k - 1) / 2 = i → ltI (atF us' k) (atF us' j2) = false):=Lib.hid (fun k h0 hk hp => by
      rw [HJ.out.2]
      exact kid2 (n:=m) h0 hp (by rw [← HJ.out.2,← HJ.out.1]; exact HL.out))
     clear hlt;go_wp2_with fail;refine (qless_any base q n c j2 i A us' _ (h.drewN m4) hb2 hi').mono ?_;rintro e w5 ⟨rfl,m5,rfl⟩;have q0:=(h.drewN (m4 + m5)).box0;have hmw:=meth_swap q0
     cases hlt : ltI (atF us' j2) (atF us' i) with
     | false =>
      have HL2:=Lib.hid hlt;clear hlt;go_wp2_with fail
      go_returns
      exact ⟨⟨_,rfl⟩,us',h.drewN (m4 + m5),HU.out.1,HU.out.2.1.stop ordI (.inr HJ.out.2) HK.out HL2.out,HU.out.2.2,hg.drewN (m4 + m5)⟩
     | true =>
      have HL2:=Lib.hid hlt;clear hlt;go_wp2_with fail;refine (qswap_any base q n c i j2 A us' _ (h.drewN (m4 + m5)) hi' hb2 hl').mono ?_;rintro e w6 ⟨rfl,h6,hg6⟩;go_wp2_with fail;go_roundw
      case rel =>
       have hli : i < us'.length:=by rw [h.len]; exact hi'
       have hlj : j2 < us'.length:=by rw [h.len]; exact hb2
       refine ⟨j2,_,rfl,.inl hb2,h6,Lib.hid ⟨(swap_perm hli hlj).trans HU.out.1,?_,fun k hk => ?_⟩,(hg.drewN (m4 + m5)).trans hg6⟩
       ·rw [atF_swap hli hlj]
        exact HU.out.2.1.step ordI (.inr HJ.out.2) HB.out.2 HK.out HL2.out
       ·rw [atF_swap hli hlj,swF_3 (by have:=HJ.out; have:=HB.out; omega) (by have:=HJ.out; have:=HB.out; omega)]
        exact HU.out.2.2 k hk
      case measure => simp [intOf]; have:=HJ.out; omega
   ·have d2 : decide (2 * (i : Int) + 1 + 1 < (m : Int)) = false:=by simp; omega
    obtain ⟨j1,hj1⟩ : ∃ j,j = 2 * i + 1:=⟨_,rfl⟩
    have e1 : 2 * (i : Int) + 1 = (j1 : Int):=by omega
    rw [e1] at w2 w3 d1 d2
    obtain ⟨j2,hj2⟩ : ∃ j,j = 2 * i + 2:=⟨_,rfl⟩
    have e2 : (j1 : Int) + 1 = (j2 : Int):=by omega
    rw [e2] at w3;clear d1 d2
    have d1 : decide (m ≤ j1) = false:=by simp; omega
    have d2 : decide (j2 < m) = false:=by simp; omega
    have HJ:=Lib.hid hj1
    have hb1 : j1 < n:=by omega
    have hi' : i < n:=by omega
    have HK : Hid (∀ k,0 < k → k < m → (k - 1) / 2 = i → ltI (atF us' k) (atF us' j1) = false):=Lib.hid (fun k h0 hk hp => kids h0 hp hk HJ.out (ltI_self _) (fun hh => absurd hh h2));have HM:=Lib.hid hz;clear hj1 hj2 h2 hz;go_wp2_with fail;refine (qless_any base q n c j1 i A us' _ h hb1 hi').mono ?_;rintro e w5 ⟨rfl,m5,rfl⟩;have q0:=(h.drewN m5).box0;have hmw:=meth_swap q0
    cases hlt : ltI (atF us' j1) (atF us' i) with
    | false =>
     have HL2:=Lib.hid hlt;clear hlt;go_wp2_with fail
     go_returns
     exact ⟨⟨_,rfl⟩,us',h.drewN m5,HU.out.1,HU.out.2.1.stop ordI (.inl HJ.out) HK.out HL2.out,HU.out.2.2,hg.drewN m5⟩
    | true =>
     have HL2:=Lib.hid hlt;clear hlt;go_wp2_with fail;refine (qswap_any base q n c i j1 A us' _ (h.drewN m5) hi' hb1 hl').mono ?_;rintro e w6 ⟨rfl,h6,hg6⟩;go_wp2_with fail;go_roundw
     case rel =>
      have hli : i < us'.length:=by rw [h.len]; exact hi'
      have hlj : j1 < us'.length:=by rw [h.len]; exact hb1
      refine ⟨j1,_,rfl,.inl hb1,h6,Lib.hid ⟨(swap_perm hli hlj).trans HU.out.1,?_,fun k hk => ?_⟩,(hg.drewN m5).trans hg6⟩
      ·rw [atF_swap hli hlj]
       exact HU.out.2.1.step ordI (.inl HJ.out) (by have:=HJ.out; have:=HM.out; omega) HK.out HL2.out
      ·rw [atF_swap hli hlj,swF_3 (by have:=HJ.out; have:=HM.out; omega) (by have:=HJ.out; have:=HM.out; omega)]
       exact HU.out.2.2 k hk
     case measure => simp [intOf]; have:=HJ.out; omega
  ·have d1 : decide ((m : Int) ≤ 2 * (i : Int) + 1) = true:=by simp; omega
   have HZ:=Lib.hid hz;clear hz;go_wp2_with fail
   go_returns
   exact ⟨⟨_,rfl⟩,us',h,HU.out.1,HU.out.2.1.none (by have:=HZ.out; omega),HU.out.2.2,hg⟩
end Go.Proofs.YtkchacgkjdeiaaaGreatDoor
/- container/heap's Push and Pop at a queue of any number of items. -/
namespace Go.Proofs.YtkchacgkjdeiaaaGreatDoor
open Go.RowKit

def itV (x : ItE) : Value:=.iface 310 (.agg #[.int .i64 x.t,.int .i64 x.d,.int .i64 (x.s : Int)])
def QpPost (base q n : Nat) (A : Option Addr) (us' : List ItE) (w : World) (e : Ending) (w' : World) : Prop:=e = .returned (.tuple #[]) ∧ ∃ A' c',QuW w' base q A' n c' us' ∧ QG base q A A' w w'
set_option maxHeartbeats 2000000 in
theorem qpush_any (base q n c : Nat) (A : Option Addr) (us : List ItE) (x : ItE) (w : World) (h : QuW w base q A n c us) (hn : n ≤ 1000000000000) (hl : base ≤ w.heap.size) (hlq : base ≤ q) :
  Calls Tryz.prog 244 #[.pointer (some ⟨q,0,none⟩),itV x] w (QpPost base q (n + 1) A (us ++ [x]) w):=by
 unfold itV
 have hta : ∀ w : World,(Instr.typeAssert (.iface 310 (.agg #[.int .i64 x.t,.int .i64 x.d,.int .i64 (x.s : Int)])) 20 310 false).run Tryz.prog w = .ok (.agg #[.int .i64 x.t,.int .i64 x.d,.int .i64 (x.s : Int)]) w:=fun _ => by kernel_rfl
 have hlen:=Lib.hid h.len;have hq:=h.box.drew;have ho : w.drew.ownsRow _ _ _ _ _ _:=h.own;have hqg:=(QG.refl base q A w).drew
 have hnf : (n + 1) * 24 ≤ 140737488355328:=by omega
 have hnz : n + 1 ≤ 9223372036854775807:=by omega
 clear h
 go_enter Tryz.func244,Tryz.ntmps244
 go_upto_region 0 with (fail);have hl0:=hl;have hl : base ≤ w.drew.heap.size:=hl;refine wp_region_heldK 9 (fun w' => w'.cell? ⟨q,0,none⟩ = some (.slice A n c)) (fun _ => True) (by kernel_rfl) (trivial) (hq.w1') (fun hT hS => ?_);(refine KU2 0 ?_; (try simp only [Act.put,Q3,Q4,Q5]));(refine KU2 1 ?_; (try simp only [Act.put,Q3,Q4,Q5]));(refine KU2 2 ?_; (try simp only [Act.put,Q3,Q4,Q5]));(refine KU1 3 ?_; (try simp only [Act.put,Q3,Q4,Q5]));(refine KU2 4 ?_; (try simp only [Act.put,Q3,Q4,Q5]));(refine KU2 5 ?_; (try simp only [Act.put,Q3,Q4,Q5]));refine wpAnyK_ready (rs:=[6]) (by kernel_rfl) (by simp) ?_;refine AllReadyK.cons rfl (fun K hK => ?_) AllReadyK.nil;go_simp;have hbx : Blk (w.drew.alloc (.cells #[.int .i64 x.t,.int .i64 x.d,.int .i64 (x.s : Int)] 310)) w.heap.size 310 #[.int .i64 x.t,.int .i64 x.d,.int .i64 (x.s : Int)]:=Blk.at_ _ (by simp);have hq:=hq.alloc (.cells #[.int .i64 x.t,.int .i64 x.d,.int .i64 (x.s : Int)] 310);have ho:=ho.alloc (.cells #[.int .i64 x.t,.int .i64 x.d,.int .i64 (x.s : Int)] 310)
 have hqg : QG base q A A w (w.drew.alloc (.cells #[.int .i64 x.t,.int .i64 x.d,.int .i64 (x.s : Int)] 310)):=⟨hqg.f.alloc hl0 _,QK.of_grown (grown_alloc (grown_drew (World.grownBy.refl w _)) _),fun _ e => .inl e⟩
 have hl : base ≤ (w.drew.alloc (.cells #[.int .i64 x.t,.int .i64 x.d,.int .i64 (x.s : Int)] 310)).heap.size:=by simp at hl ⊢; omega
 refine hK.out _ _ (trivial) (hq.w1') (fun hT hS => ?_);clear hK K;(try simp only [Act.put,Q3,Q4,Q5]);refine wpAnyK_ready (rs:=[7]) (by kernel_rfl) (by simp) ?_;refine AllReadyK.cons rfl (fun K hK => ?_) AllReadyK.nil;refine step_app (lo:=0) (base:=base) (n:=n) (xs:=us.flatMap encI) _ rfl _ _ ty_items rfl ho rfl (Row.lit (n:=1) (size:=3) hbx (Nat.zero_le _) rfl) rfl rfl hnf hnz hl ?_;intro A5 c5 w5 ho5 g5 hA5;rw [obk_is,obk_is] at hA5
 have hqg : QG base q A A5 w w5:=⟨hqg.f.trans (QF.of_grown g5 (own_kind ho) (.inr rfl) hl (own_base ho)),hqg.k.trans (QK.of_grown (by rw [← obk_is A n c]; exact g5)),fun j hj => by
  rcases hA5 with e | e
  ·exact .inl (by rw [← e]; exact hj)
  ·rw [e] at hj; injection hj with hj; right; rw [← hj]; simp⟩
 have hl : base ≤ w5.heap.size:=Nat.le_trans hl g5.size;have hq:=hq.other g5 (own_kind ho) (by decide);refine hK.out _ _ (trivial) (hq.w1') (fun hT hS => ?_);clear hK K;(try simp only [Act.put,Q3,Q4,Q5]);(refine KU2 8 ?_; (try simp only [Act.put,Q3,Q4,Q5]));refine wpAnyK_ready (rs:=[9]) (by kernel_rfl) (by simp) ?_;refine AllReadyK.consT (by kernel_rfl) rfl (fun K hK => ?_) AllReadyK.nil;have q0:=hq.w1';have qf:=hq.thaw 0;have zq:=hq.lt;go_simp;have gq:=grown_poke w5 q 0 (.slice A5 (n + 1) c5)
 have hqg : QG base q A A5 w (w5.setCell ⟨q,0,none⟩ (.slice A5 (n + 1) c5)):=⟨hqg.f.trans (QF.of_grown gq hq.kind (.inl rfl) hl (fun k hk => by injection hk with hk; omega)),hqg.k.trans (QK.of_poke w5 0 (.slice A5 (n + 1) c5)),hqg.n⟩
 have ho5:=own_other ho5 gq hq.kind (by decide)
 have hq : Blk (w5.setCell ⟨q,0,none⟩ (.slice A5 (n + 1) c5)) q 306 #[.slice A5 (n + 1) c5]:=by simpa using hq.poke 0 (.slice A5 (n + 1) c5)
 refine hK.out _ _ (trivial) (fun hT => ?_);clear hK K;(try simp only [Act.put,Q3,Q4,Q5]);refine wpAnyK_done (by kernel_rfl) ?_ _
 go_returns
 exact ⟨rfl,A5,c5,⟨hq,by rw [List.flatMap_append]; exact ho5,by rw [List.length_append,hlen.out]; rfl⟩,hqg⟩
theorem flatI_len : ∀ us : List ItE,(us.flatMap encI).length = us.length * 3
 | [] => rfl
 | x :: us => by rw [List.flatMap_cons,List.length_append,flatI_len us,encI_len,List.length_cons]; omega
theorem own_capQ {w : World} {base size n c : Nat} {e : TypeId} {A : Option Addr} {xs : List Value} (h : w.ownsRow base e size (.slice A n c) n xs) : n ≤ c:=by
 rcases h.2 with ⟨_,h0⟩ | ⟨g,cap,cur,hv,hg,hh,hcap,_⟩
 ·omega
 ·injection hv with h1 h2 h3
  omega
def QoPost (base q n c : Nat) (A : Option Addr) (us : List ItE) (x : ItE) (w : World) (e : Ending) (w' : World) : Prop:=e = .returned (itV x) ∧ QuW w' base q A n c us ∧ QG base q A A w w'
set_option maxHeartbeats 2000000 in
theorem qpop_any (base q n c : Nat) (A : Option Addr) (us : List ItE) (x : ItE) (w : World) (h : QuW w base q A (n + 1) c (us ++ [x])) (hn : n ≤ 1000000000000) (hl : base ≤ w.heap.size) (hlq : base ≤ q) :
  Calls Tryz.prog 243 #[.pointer (some ⟨q,0,none⟩)] w (QoPost base q n c A us x w):=by
 have hlen : Hid (us.length = n):=Lib.hid (by have:=h.len; simp at this; omega);have q0:=h.box0;have qf:=h.box.thaw 0;have zq:=h.box.lt;obtain ⟨b,rfl,hb1,zb,⟨b0,b1,b2⟩,-⟩:=h.at (m:=n) (by have:=hlen.out; simp; omega)
 have ex : (us ++ [x])[n]'(by have:=hlen.out; simp; omega) = x:=by
  rw [List.getElem_append_right (by have:=hlen.out; omega)]; simp
 rw [ex] at b0 b1 b2
 have ho' : w.ownsRow base 310 3 (.slice (some ⟨b,0,none⟩) (n + 1) c) (n + 1) (us.flatMap encI ++ encI x):=by
  have:=h.own; rw [List.flatMap_append] at this; simpa using this
 have HP : Hid (w.ownsRow base 310 3 (.slice (some ⟨b,0,none⟩) n c) n (us.flatMap encI)):=Lib.hid (ownsRow_pop (by rw [flatI_len,hlen.out]) ho');clear ho';have HQ:=Lib.hid h.box
 have w1 : IntKind.i64.wrap (((n + 1 : Nat) : Int) - 1) = (n : Int):=by rw [IntWalk.i64_in _ ⟨by omega,by omega⟩]; omega
 have hcp : n + 1 ≤ c:=own_capQ h.own;clear h ex
 go_enter Tryz.func243,Tryz.ntmps243
 go_wp2_with fail;go_ret;have hq:=HQ.out
 have hp : Blk (w.setCell ⟨q,0,none⟩ (.slice (some ⟨b,0,none⟩) n c)) q 306 #[.slice (some ⟨b,0,none⟩) n c]:=by simpa using hq.poke 0 (.slice (some ⟨b,0,none⟩) n c)
 exact ⟨rfl,⟨hp.alloc _,(own_other HP.out (grown_poke w q 0 _) hq.kind (by decide)).alloc _,hlen.out⟩,⟨(QF.of_grown (grown_poke w q 0 _) hq.kind (.inl rfl) hl (fun k hk => by injection hk with hk; omega)).alloc hl _,(QK.of_poke w 0 _).trans (QK.of_grown (grown_alloc (World.grownBy.refl _ _) _)),fun _ e => .inl e⟩⟩
def HpushPost (base q n : Nat) (A : Option Addr) (us : List ItE) (x : ItE) (w : World) (e : Ending) (w' : World) : Prop:=e = .returned (.tuple #[]) ∧ ∃ A' c' us',QuW w' base q A' (n + 1) c' us' ∧ us'.Perm (x :: us) ∧ HeapL ltI us' ∧ QG base q A A' w w'
set_option maxRecDepth 100000 in
set_option maxHeartbeats 2000000 in
theorem hpush_any (base q n c : Nat) (A : Option Addr) (us : List ItE) (x : ItE) (w : World) (h : QuW w base q A n c us) (hp : HeapL ltI us) (hn : n ≤ 1000000000) (hl : base ≤ w.heap.size) (hlq : base ≤ q) :
  Calls Tryz.prog 203 #[FnQ q,itV x] w (HpushPost base q n A us x w):=by
 have HC:=Lib.hid (qpush_any base q n c A us x w h (by omega) hl hlq);have HU : Hid (UpF ltI (atF (us ++ [x])) (n + 1) n):=Lib.hid (by have:=hp.push x; rw [h.len] at this; rw [show (us ++ [x]).length = n + 1 by simp [h.len]] at this; exact this);clear h hp;unfold FnQ itV;unfold itV at HC
 go_enter Tryz.func203,Tryz.ntmps203
 go_wp2_with fail;refine (HC.out).mono ?_;rintro e w1 ⟨rfl,A',c',hq1,hg1⟩;have hm:=meth_len hq1.box0
 have w1 : IntKind.i64.wrap (((n + 1 : Nat) : Int) - 1) = (n : Int):=by rw [IntWalk.i64_in _ ⟨by omega,by omega⟩]; omega
 go_wp2_with fail;refine (qlen_fx _ _ _ _).mono ?_;rintro e w2 ⟨rfl,rfl⟩;go_wp2_with fail;refine (hup_any base q (n + 1) c' n A' _ _ hq1 (by omega) (by omega) HU.out (Nat.le_trans hl hg1.k.1)).mono ?_;rintro e w3 ⟨rfl,us',hq3,hpm,hhp,hg3⟩;go_wp2_with fail
 go_returns
 exact ⟨rfl,A',c',us',hq3,hpm.trans (List.perm_append_singleton x us),hhp,hg1.trans hg3⟩
def HpopPost (base q n c : Nat) (A : Option Addr) (us : List ItE) (w : World) (e : Ending) (w' : World) : Prop:=∃ x us',e = .returned (itV x) ∧ QuW w' base q A n c us' ∧ us.Perm (x :: us') ∧ HeapL ltI us' ∧ (∀ y ∈ us,ltI y x = false) ∧ QG base q A A w w'
set_option maxRecDepth 100000 in
set_option maxHeartbeats 2000000 in
theorem hpop_any (base q n c : Nat) (A : Option Addr) (us : List ItE) (w : World) (h : QuW w base q A (n + 1) c us) (hp : HeapL ltI us) (hn : n ≤ 1000000000) (hl : base ≤ w.heap.size) (hlq : base ≤ q) :
  Calls Tryz.prog 204 #[FnQ q] w (HpopPost base q n c A us w):=by
 have hlen:=Lib.hid h.len;have HD : Hid (DownF ltI (atF (swapAt us 0 n)) n 0):=Lib.hid (by have:=hp.pop (by rw [h.len]; omega); rw [h.len] at this; exact this)
 have HT : Hid (∀ y ∈ us,ltI y (atF us 0) = false):=Lib.hid (fun y hy => by
  obtain ⟨k,hk,rfl⟩:=List.mem_iff_getElem.1 hy;rw [← atF_lt hk]
  exact HeapF.top ordI hp k hk)
 have hm:=meth_len h.box0;have hms:=meth_swap h.box0
 have w1 : IntKind.i64.wrap (((n + 1 : Nat) : Int) - 1) = (n : Int):=by rw [IntWalk.i64_in _ ⟨by omega,by omega⟩]; omega
 clear hp;unfold FnQ
 go_enter Tryz.func204,Tryz.ntmps204
 go_wp2_with fail;refine (qlen_fx _ _ _ _).mono ?_;rintro e w2 ⟨rfl,rfl⟩;go_wp2_with fail;refine (qswap_any base q (n + 1) c 0 n A us _ h (by omega) (by omega) hl).mono ?_;rintro e w3 ⟨rfl,h3,hg3⟩;go_wp2_with fail;refine (hdown_any base q (n + 1) c n A _ _ h3 (by omega) (by omega) HD.out (Nat.le_trans hl hg3.k.1)).mono ?_;rintro e w4 ⟨⟨bd,rfl⟩,us4,h4,hpm,hhp,hst,hg4⟩
 have HS : Hid (us4 = us4.take n ++ [atF us 0]):=Lib.hid (by
  have e1:=last_split (l:=us4) (n:=n) h4.len;have e2:=hst n (Nat.le_refl _);rw [atF_swap (by rw [hlen.out]; omega) (by rw [hlen.out]; omega)] at e2;rw [e2] at e1;have e3 : swF (atF us) 0 n n = atF us 0:=swF_2;rw [e3] at e1
  exact e1)
 have hpm0 : us.Perm (atF us 0 :: us4.take n):=by
  have h1:=hpm.trans (swap_perm (by rw [hlen.out]; omega) (by rw [hlen.out]; omega));refine h1.symm.trans ?_
  conv => lhs; rw [HS.out]
  exact List.perm_append_singleton _ _
 have hhp4 : HeapL ltI (us4.take n):=hhp.take (by rw [h4.len]; omega)
 have h5 : QuW w4 base q A (n + 1) c (us4.take n ++ [atF us 0]):=by rw [← HS.out]; exact h4
 have HP:=Lib.hid (And.intro hpm0 hhp4);clear hpm hhp hst h4 h3 h hpm0 hhp4;go_wp2_with fail;refine (qpop_any base q n c A _ _ _ h5 (by omega) (Nat.le_trans hl (hg3.trans hg4).k.1) hlq).mono ?_;rintro e w5 ⟨rfl,h6,hg6⟩;unfold itV;go_wp2_with fail
 go_returns
 exact ⟨_,_,rfl,h6,HP.out.1,HP.out.2,HT.out,(hg3.trans hg4).trans hg6⟩
end Go.Proofs.YtkchacgkjdeiaaaGreatDoor
/- The plain theory of a measure: the least times and doors to an end, found by a queue. -/
namespace Go.Proofs.YtkchacgkjdeiaaaGreatDoor

inductive WayG (stp : List (List (Nat × Nat))) (lst : List Bool) (tm : Nat → Int) : Nat → Int → Int → List Nat → Prop
  | stop {i : Nat} : lst[i]? = some true → WayG stp lst tm i 0 0 []
  | go {i k j : Nat} {t d : Int} {ks : List Nat} : (k, j) ∈ stp.getD i [] → WayG stp lst tm j t d ks → WayG stp lst tm i (t + tm k) (d + 1) (k :: ks)
theorem WayG.none {stp : List (List (Nat × Nat))} {lst : List Bool} {tm : Nat → Int} {i : Nat} {t d : Int} {ks : List Nat} (h : WayG stp lst tm i t d ks) (he : stp.getD i [] = []) : t = 0 ∧ d = 0:=by
 cases h with
 | stop _ => exact ⟨rfl,rfl⟩
 | go h1 _ => rw [he] at h1; cases h1
def leK (a b : Int × Int) : Prop:=a.1 < b.1 ∨ a.1 = b.1 ∧ a.2 ≤ b.2
theorem leK_refl (a : Int × Int) : leK a a:=.inr ⟨rfl,Int.le_refl _⟩
theorem leK_trans {a b c : Int × Int} (h : leK a b) (k : leK b c) : leK a c:=by unfold leK at *; omega
theorem leK_add {a b : Int × Int} {x : Int} (h : leK a b) : leK (a.1 + x,a.2 + 1) (b.1 + x,b.2 + 1):=by unfold leK at *; simp only; omega
theorem leK_up {a b : Int × Int} {x : Int} (h : leK a b) (hx : 1 ≤ x) : leK a (b.1 + x,b.2 + 1):=by unfold leK at *; simp only; omega
theorem leK_lt {x y : ItE} (h : ltI y x = false) : leK (x.t,x.d) (y.t,y.d):=by
 unfold ltI at h;unfold leK
 split at h <;> simp at h <;> simp only <;> omega
def fA (far : List (Int × Int)) (i : Nat) : Int × Int:=far.getD i (-1,0)
theorem fA_lt {far : List (Int × Int)} {i : Nat} (h : i < far.length) : fA far i = far[i]:=by unfold fA; rw [List.getD_eq_getElem?_getD,List.getElem?_eq_getElem h]; rfl
theorem fA_set {far : List (Int × Int)} {s : Nat} (v : Int × Int) (h : s < far.length) (i : Nat) : fA (far.set s v) i = if i = s then v else fA far i:=by
 unfold fA;simp only [List.getD_eq_getElem?_getD]
 by_cases e : i = s
 ·subst e; rw [if_pos rfl,List.getElem?_set_self h]; rfl
 ·rw [if_neg e,List.getElem?_set_ne (Ne.symm e)]
def cntF (far : List (Int × Int)) : Nat:=far.countP fun p => decide (0 ≤ p.1)
theorem cntF_set {far : List (Int × Int)} {s : Nat} {v : Int × Int} (h : s < far.length) (h0 : (fA far s).1 < 0) (hv : 0 ≤ v.1) : cntF (far.set s v) = cntF far + 1:=by
 unfold cntF;rw [List.countP_set h];rw [fA_lt h] at h0
 have e1 : decide (0 ≤ (far[s]).1) = false:=by simp; omega
 have e2 : decide (0 ≤ v.1) = true:=by simpa using hv
 rw [e1,e2]; simp
theorem cntF_le (far : List (Int × Int)) : cntF far ≤ far.length:=List.countP_le_length
def remE (n : Nat) (back : List (List (Nat × Nat))) (far : List (Int × Int)) : Nat:=((List.range n).map fun i => if (fA far i).1 < 0 then (back.getD i []).length else 0).sum
theorem sum_upd {f g : Nat → Nat} {s c : Nat} : ∀ n,s < n → (∀ i,i ≠ s → f i = g i) → f s = g s + c → ((List.range n).map f).sum = ((List.range n).map g).sum + c
 | 0,h,_,_ => by omega
 | n + 1,h,h1,h2 => by
  rw [List.range_succ,List.map_append,List.map_append,List.sum_append,List.sum_append]
  by_cases e : s = n
  ·subst e
   have : (List.range s).map f = (List.range s).map g:=List.map_congr_left fun i hi => h1 i (by have:=List.mem_range.1 hi; omega)
   rw [this]; simp [h2]; omega
  ·rw [sum_upd n (by omega) h1 h2]
   simp [h1 n (Ne.symm e)]; omega
theorem remE_set {n s : Nat} {back : List (List (Nat × Nat))} {far : List (Int × Int)} {v : Int × Int} (hs : s < n) (hl : far.length = n) (h0 : (fA far s).1 < 0) (hv : 0 ≤ v.1) : remE n back far = remE n back (far.set s v) + (back.getD s []).length:=by
 unfold remE;refine sum_upd n hs (fun i hi => ?_) ?_
 ·rw [fA_set v (by omega),if_neg hi]
 ·rw [fA_set v (by omega),if_pos rfl,if_pos h0,if_neg (by omega)]; omega
structure DjI (n : Nat) (stp : List (List (Nat × Nat))) (lst : List Bool) (tm : Nat → Int) (H : Nat → Nat → Nat → Prop) (far : List (Int × Int)) (q : List ItE) : Prop where
  flen : far.length = n
  fin : ∀ i, i < n → fA far i = (-1, 0) ∨ 0 ≤ (fA far i).1 ∧ (∃ ks, WayG stp lst tm i (fA far i).1 (fA far i).2 ks)
  qin : ∀ x ∈ q, x.s < n ∧ 0 ≤ x.t ∧ (∃ ks, WayG stp lst tm x.s x.t x.d ks) ∧ 0 ≤ x.d ∧ x.d ≤ (cntF far : Int) ∧ x.t ≤ 864000000 * x.d
  ord : ∀ i, i < n → 0 ≤ (fA far i).1 → ∀ x ∈ q, leK (fA far i) (x.t, x.d)
  last : ∀ i, i < n → lst[i]? = some true → 0 ≤ (fA far i).1 ∨ ∃ x ∈ q, x.s = i ∧ x.t = 0 ∧ x.d = 0
  edge : ∀ i k j, i < n → (k, j) ∈ stp.getD i [] → H i k j → 0 ≤ (fA far j).1 → (0 ≤ (fA far i).1 ∧ leK (fA far i) ((fA far j).1 + tm k, (fA far j).2 + 1)) ∨ ∃ x ∈ q, x.s = i ∧ x.t = (fA far j).1 + tm k ∧ x.d = (fA far j).2 + 1
  bnd : ∀ i, i < n → 0 ≤ (fA far i).2 ∧ (fA far i).2 ≤ (cntF far : Int) ∧ (fA far i).1 ≤ 864000000 * (fA far i).2
structure FarOk (n : Nat) (stp : List (List (Nat × Nat))) (lst : List Bool) (tm : Nat → Int) (far : List (Int × Int)) : Prop where
  flen : far.length = n
  val : ∀ i, i < n → (fA far i = (-1, 0) ∧ ∀ t d ks, ¬ WayG stp lst tm i t d ks) ∨ (0 ≤ (fA far i).1 ∧ (∃ ks, WayG stp lst tm i (fA far i).1 (fA far i).2 ks) ∧ ∀ t d ks, WayG stp lst tm i t d ks → leK (fA far i) (t, d))
  bnd : ∀ i, i < n → 0 ≤ (fA far i).2 ∧ (fA far i).2 ≤ (n : Int) ∧ (fA far i).1 ≤ 864000000 * (fA far i).2
section
variable {n : Nat} {stp : List (List (Nat × Nat))} {lst : List Bool} {tm : Nat → Int} {H : Nat → Nat → Nat → Prop} {far : List (Int × Int)} {q q' : List ItE} {x : ItE}
theorem DjI.perm (h : DjI n stp lst tm H far q) (hp : q'.Perm q) : DjI n stp lst tm H far q' :=
 ⟨h.flen,h.fin,fun x hx => h.qin x (hp.mem_iff.1 hx),fun i hi h0 x hx => h.ord i hi h0 x (hp.mem_iff.1 hx),fun i hi hl => (h.last i hi hl).imp id fun ⟨x,hx,e⟩ => ⟨x,hp.mem_iff.2 hx,e⟩,
  fun i k j hi he hH h0 => (h.edge i k j hi he hH h0).imp id fun ⟨x,hx,e⟩ => ⟨x,hp.mem_iff.2 hx,e⟩,h.bnd⟩
theorem fA_new (n i : Nat) : fA (List.replicate n (-1,0)) i = (-1,0):=by
 unfold fA;rw [List.getD_eq_getElem?_getD,List.getElem?_replicate]
 split <;> rfl
theorem DjI.start (hq : ∀ x ∈ q,x.s < n ∧ x.t = 0 ∧ x.d = 0 ∧ lst[x.s]? = some true) (hl : ∀ i,i < n → lst[i]? = some true → ∃ x ∈ q,x.s = i) : DjI n stp lst tm H (List.replicate n (-1,0)) q:=by
 refine ⟨by simp,fun i _ => .inl (fA_new n i),fun x hx => ?_,fun i _ h0 => ?_,fun i hi h1 => .inr ?_,fun i k j _ _ _ h0 => ?_,fun i _ => ?_⟩
 ·obtain ⟨h1,h2,h3,h4⟩:=hq x hx
  rw [h2,h3];exact ⟨h1,Int.le_refl _,⟨[],.stop h4⟩,Int.le_refl _,by omega,by omega⟩
 ·rw [fA_new] at h0; exact absurd h0 (by decide)
 ·obtain ⟨x,hx,e⟩:=hl i hi h1
  obtain ⟨_,h2,h3,_⟩:=hq x hx;exact ⟨x,hx,e,h2,h3⟩
 ·rw [fA_new] at h0; exact absurd h0 (by decide)
 ·rw [fA_new]; simp
theorem DjI.skip (h : DjI n stp lst tm H far (x :: q)) (h0 : 0 ≤ (fA far x.s).1) : DjI n stp lst tm H far q:=by
 have hx:=h.qin x (List.mem_cons_self ..);refine ⟨h.flen,h.fin,fun y hy => h.qin y (List.mem_cons_of_mem _ hy),fun i hi h1 y hy => h.ord i hi h1 y (List.mem_cons_of_mem _ hy),fun i hi hl => ?_,fun i k j hi he hH h1 => ?_,h.bnd⟩
 ·rcases h.last i hi hl with h1 | ⟨y,hy,e1,e2,e3⟩
  ·exact .inl h1
  ·rcases List.mem_cons.1 hy with rfl | hy
   ·exact .inl (by rw [← e1]; exact h0)
   ·exact .inr ⟨y,hy,e1,e2,e3⟩
 ·rcases h.edge i k j hi he hH h1 with h2 | ⟨y,hy,e1,e2,e3⟩
  ·exact .inl h2
  ·rcases List.mem_cons.1 hy with rfl | hy
   ·refine .inl ⟨by rw [← e1]; exact h0,?_⟩
    have:=h.ord y.s hx.1 h0 y (List.mem_cons_self ..);rw [e1,e2,e3] at this;exact this
   ·exact .inr ⟨y,hy,e1,e2,e3⟩
theorem DjI.settle (h : DjI n stp lst tm (fun _ _ _ => True) far (x :: q)) (hm : ∀ y ∈ q,ltI y x = false) (h0 : (fA far x.s).1 < 0) :
  DjI n stp lst tm (fun _ _ j => j ≠ x.s) (far.set x.s (x.t,x.d)) q ∧ ∀ i,i < n → 0 ≤ (fA (far.set x.s (x.t,x.d)) i).1 → leK (fA (far.set x.s (x.t,x.d)) i) (x.t,x.d):=by
 obtain ⟨hs,ht,hw,hd0,hdc,htd⟩:=h.qin x (List.mem_cons_self ..)
 have hsl : x.s < far.length:=by rw [h.flen]; exact hs
 have hc : cntF (far.set x.s (x.t,x.d)) = cntF far + 1:=cntF_set hsl h0 ht;have hA:=fA_set (x.t,x.d) hsl
 have hneg : fA far x.s = (-1,0):=by
  rcases h.fin _ hs with e | ⟨e,_⟩
  ·exact e
  ·omega
 refine ⟨⟨by simp [h.flen],fun i hi => ?_,fun y hy => ?_,fun i hi h1 y hy => ?_,fun i hi hl => ?_,fun i k j hi he hj h1 => ?_,fun i hi => ?_⟩,fun i hi h1 => ?_⟩
 ·rw [hA]
  by_cases e : i = x.s
  ·subst e; rw [if_pos rfl]; exact .inr ⟨ht,hw⟩
  ·rw [if_neg e]; exact h.fin i hi
 ·have:=h.qin y (List.mem_cons_of_mem _ hy)
  rw [hc];obtain ⟨a,b,c,d,e,f⟩:=this;exact ⟨a,b,c,d,by omega,f⟩
 ·rw [hA] at h1 ⊢
  by_cases e : i = x.s
  ·rw [if_pos e]; exact leK_lt (hm y hy)
  ·rw [if_neg e] at h1 ⊢; exact h.ord i hi h1 y (List.mem_cons_of_mem _ hy)
 ·rw [hA]
  by_cases e : i = x.s
  ·rw [if_pos e]; exact .inl ht
  ·rw [if_neg e]
   rcases h.last i hi hl with h1 | ⟨y,hy,e1,e2,e3⟩
   ·exact .inl h1
   ·rcases List.mem_cons.1 hy with rfl | hy
    ·exact absurd e1.symm e
    ·exact .inr ⟨y,hy,e1,e2,e3⟩
 ·rw [hA j,if_neg hj] at h1 ⊢
  rcases h.edge i k j hi he trivial h1 with h2 | ⟨y,hy,e1,e2,e3⟩
  ·have e : i ≠ x.s:=fun e => by rw [e,hneg] at h2; exact absurd h2.1 (by decide)
   rw [hA,if_neg e]; exact .inl h2
  ·rcases List.mem_cons.1 hy with rfl | hy
   ·rw [hA,if_pos e1.symm]
    exact .inl ⟨ht,by rw [e2,e3]; exact leK_refl _⟩
   ·exact .inr ⟨y,hy,e1,e2,e3⟩
 ·rw [hA,hc]
  by_cases e : i = x.s
  ·rw [if_pos e]; exact ⟨hd0,by simp only; omega,htd⟩
  ·rw [if_neg e]; have:=h.bnd i hi; exact ⟨this.1,by omega,this.2.2⟩
 ·rw [hA] at h1 ⊢
  by_cases e : i = x.s
  ·rw [if_pos e]; exact leK_refl _
  ·rw [if_neg e] at h1 ⊢; exact h.ord i hi h1 x (List.mem_cons_self ..)
theorem DjI.seen {H' : Nat → Nat → Nat → Prop} {s k0 i0 : Nat} (h : DjI n stp lst tm H far q) (htop : ∀ i,i < n → 0 ≤ (fA far i).1 → leK (fA far i) (fA far s)) (htm : 1 ≤ tm k0)
  (hH : ∀ i k j,H' i k j → H i k j ∨ (i = i0 ∧ k = k0 ∧ j = s)) (h0 : 0 ≤ (fA far i0).1) : DjI n stp lst tm H' far q:=by
 refine ⟨h.flen,h.fin,h.qin,h.ord,h.last,fun i k j hi he hj h1 => ?_,h.bnd⟩;rcases hH i k j hj with h2 | ⟨rfl,rfl,rfl⟩
 ·exact h.edge i k j hi he h2 h1
 ·exact .inl ⟨h0,leK_up (htop _ hi h0) htm⟩
theorem DjI.push {H' : Nat → Nat → Nat → Prop} {s k0 i0 : Nat} (h : DjI n stp lst tm H far q) (htop : ∀ i,i < n → 0 ≤ (fA far i).1 → leK (fA far i) (fA far s)) (htm : 1 ≤ tm k0) (htm2 : tm k0 ≤ 864000000)
  (hH : ∀ i k j,H' i k j → H i k j ∨ (i = i0 ∧ k = k0 ∧ j = s)) (hi0 : i0 < n) (he0 : (k0,s) ∈ stp.getD i0 []) (hs : s < n) (hs0 : 0 ≤ (fA far s).1) (hsd : (fA far s).2 + 1 ≤ (cntF far : Int)) :
  DjI n stp lst tm H' far (⟨(fA far s).1 + tm k0,(fA far s).2 + 1,i0⟩ :: q):=by
 refine ⟨h.flen,h.fin,fun x hx => ?_,fun i hi h1 x hx => ?_,fun i hi hl => (h.last i hi hl).imp id fun ⟨x,hx,e⟩ => ⟨x,List.mem_cons_of_mem _ hx,e⟩,fun i k j hi he hj h1 => ?_,h.bnd⟩
 ·rcases List.mem_cons.1 hx with rfl | hx
  ·have hb:=h.bnd s hs
   rcases h.fin s hs with e | ⟨_,ks,hk⟩
   ·rw [e] at hs0; exact absurd hs0 (by decide)
   ·exact ⟨hi0,by simp only; omega,⟨k0 :: ks,.go he0 hk⟩,by simp only; omega,hsd,by simp only; omega⟩
  ·exact h.qin x hx
 ·rcases List.mem_cons.1 hx with rfl | hx
  ·exact leK_up (htop i hi h1) htm
  ·exact h.ord i hi h1 x hx
 ·rcases hH i k j hj with h2 | ⟨rfl,rfl,rfl⟩
  ·exact (h.edge i k j hi he h2 h1).imp id fun ⟨x,hx,e⟩ => ⟨x,List.mem_cons_of_mem _ hx,e⟩
  ·exact .inr ⟨_,List.mem_cons_self ..,rfl,rfl,rfl⟩
theorem DjI.done (h : DjI n stp lst tm (fun _ _ _ => True) far []) (hend : ∀ i,lst[i]? = some true → stp.getD i [] = []) (hto : ∀ i k j,(k,j) ∈ stp.getD i [] → j < n) : FarOk n stp lst tm far:=by
 have key : ∀ i t d ks,WayG stp lst tm i t d ks → i < n → 0 ≤ (fA far i).1 ∧ leK (fA far i) (t,d):=by
  intro i t d ks hw
  induction hw with
  | @stop i hl =>
   intro hi
   have h1 : 0 ≤ (fA far i).1:=by
    rcases h.last i hi hl with h1 | ⟨x,hx,_⟩
    ·exact h1
    ·cases hx
   refine ⟨h1,?_⟩;rcases h.fin i hi with e | ⟨_,ks,hk⟩
   ·rw [e] at h1; exact absurd h1 (by decide)
   ·obtain ⟨e1,e2⟩:=hk.none (hend i hl)
    exact .inr ⟨e1,Int.le_of_eq e2⟩
  | @go i k j t d ks he _ ih =>
   intro hi;obtain ⟨h1,h2⟩:=ih (hto i k j he);rcases h.edge i k j hi he trivial h1 with ⟨h3,h4⟩ | ⟨x,hx,_⟩
   ·exact ⟨h3,leK_trans h4 (leK_add h2)⟩
   ·cases hx
 refine ⟨h.flen,fun i hi => ?_,fun i hi => ?_⟩
 ·rcases h.fin i hi with e | ⟨h1,h2⟩
  ·exact .inl ⟨e,fun t d ks hw => by have:=(key i t d ks hw hi).1; rw [e] at this; exact absurd this (by decide)⟩
  ·exact .inr ⟨h1,h2,fun t d ks hw => (key i t d ks hw hi).2⟩
 ·have:=h.bnd i hi
  have h2:=cntF_le far;rw [h.flen] at h2;exact ⟨this.1,by omega,this.2.2⟩
end
end Go.Proofs.YtkchacgkjdeiaaaGreatDoor
