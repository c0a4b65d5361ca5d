/- Texts of this seat, laid together: Stream Key Pieces InpA. -/
import Derived.Test.YtjggbpchmbdocaaGreatDoorProg
import Derived.Deep.RegionHeld3
import Derived.Deep.LoopGhost
import Derived.Test.YtjggbpchmbdocaaGreatDoorBt00
/- The walks of the stream that hands out numbers (package splitmake), each call by a contract. -/
set_option linter.unusedVariables false
set_option linter.unusedSimpArgs false
namespace Go.Proofs.YtjggbpchmbdocaaGreatDoor
open Go.RowKit

def I64 (n : Int) : Prop:=-9223372036854775808 ≤ n ∧ n ≤ 9223372036854775807

def Str (w : World) (g N : Nat) : Prop :=
 ∃ (A : Option Addr) (n c : Nat) (at_ : Nat),w.heap[g]? = some (.cells #[.slice A n c,.int .i64 at_] 25 (0,0)) ∧ at_ ≤ N ∧ n ≤ 9223372036854775807 ∧
  ∀ k,k < n → ∃ b off z,A = some ⟨b,off,none⟩ ∧ b < g ∧ w.cell? ⟨b,off + k,none⟩ = some (.int .i64 z) ∧ I64 z

theorem Str.grown {w w' : World} {g N : Nat} {row : Option Nat} (h : Str w g N) (hb : w.grownBy w' row) (hr : ∀ k,row = some k → g < k) : Str w' g N:=by
 obtain ⟨A,n,c,at_,h1,h2,h3,h4⟩:=h;have hg : g < w.heap.size:=(Array.getElem?_eq_some_iff.1 h1).1;refine ⟨A,n,c,at_,(hb.block g hg (fun e => by have:=hr g e.symm; omega)).trans h1,h2,h3,fun k hk => ?_⟩;obtain ⟨b,off,z,e,hne,hc,hz⟩:=h4 k hk;exact ⟨b,off,z,e,hne,(World.cell?_of_block (w:=w) (hb.block b (by omega) (fun e => by have:=hr b e.symm; omega))).trans hc,hz⟩
theorem Str.keep {w w' : World} {g N : Nat} (h : Str w g N) (hb : Below w.heap.size w w') : Str w' g N:=h.grown (grown_of_below hb none) (fun k hk => by cases hk)
theorem Str.alloc {w : World} {g N : Nat} (h : Str w g N) (o : Obj) : Str (w.alloc o) g N:=h.keep ((Below.refl _ _).alloc (Nat.le_refl _) o)
theorem Str.app {w w' : World} {g N base : Nat} {e : TypeId} {size : Nat} {v : Value} {n : Nat} {xs : List Value} (h : Str w g N) (hown : w.ownsRow base e size v n xs) (hg : w.grownBy w' v.ownBlock) (hb : g < base) : Str w' g N :=
 h.grown hg fun k hk => by have:=(hown.lt k hk).1; omega
theorem Str.set {w : World} {g N : Nat} (h : Str w g N) {p : Addr} (hp : g < p.block) (u : Value) : Str (w.setCell p u) g N :=
 h.grown (row:=some p.block) ⟨rfl,rfl,rfl,by simp [World.setCell],fun k _ hk => Below.heap_setCell w p u k (fun e => hk (by rw [e]))⟩ (fun k hk => by injection hk with hk; omega)
theorem Str.drew {w : World} {g N : Nat} (h : Str w g N) : Str w.drew g N:=h
theorem Str.drewN {w : World} {g N : Nat} (h : Str w g N) (q : Nat) : Str (w.drewN q) g N:=h
theorem Str.more {w : World} {g N N' : Nat} (h : Str w g N) (hN : N ≤ N') : Str w g N':=by
 obtain ⟨A,n,c,at_,h1,h2,h3,h4⟩:=h;exact ⟨A,n,c,at_,h1,by omega,h3,h4⟩
theorem Str.lt {w : World} {g N : Nat} (h : Str w g N) : g < w.heap.size:=by
 obtain ⟨A,n,c,at_,h1,_⟩:=h;exact (Array.getElem?_eq_some_iff.1 h1).1

set_option maxHeartbeats 400000 in
theorem below_any (x n : Int) (w : World) (hx : I64 x) (hn' : n ≤ 9223372036854775807) :
  Calls Tryz.prog 116 #[.int .i64 x,.int .i64 n] w fun e w' => ∃ r : Int,e = .returned (.int .i64 r) ∧ 0 ≤ r ∧ (1 ≤ n → r < n) ∧ r ≤ 9223372036854775807 ∧ w = w':=by
 obtain ⟨hx,hx'⟩:=hx
 by_cases h : n < 1
 ·go_enter Tryz.func116,Tryz.ntmps116
  go_wp2
  go_ret;exact ⟨0,rfl,by omega,by omega,by omega,rfl⟩
 ·have h1 : 1 ≤ n:=by omega
  have h2 : x.tmod n < n:=Int.tmod_lt_of_pos _ (by omega)
  have h3 : -n < x.tmod n:=by
   have:=Int.tmod_lt_of_pos (-x) (b:=n) (by omega);rw [Int.neg_tmod] at this;omega
  go_enter Tryz.func116,Tryz.ntmps116
  go_wp2
  ·go_ret
   exact ⟨_,rfl,by omega,by omega,by omega,rfl⟩
  ·go_ret
   exact ⟨_,rfl,by omega,by omega,by omega,rfl⟩

theorem i64_wrap (n : Int) : I64 (wrap64 n):=by unfold I64 wrap64; omega
theorem str_set {w : World} {g : Nat} {x y : Value} {t : TypeId} (h : w.heap[g]? = some (.cells #[x,y] t (0,0))) (u : Value) : (w.setCell ⟨g,1,none⟩ u).heap[g]? = some (.cells #[x,u] t (0,0)):=by
 simp [World.setCell,Array.getElem?_modify,h]

theorem str_next {w : World} {g N : Nat} {A : Option Addr} {n c k : Nat} (hb : w.heap[g]? = some (.cells #[.slice A n c,.int .i64 k] 25 (0,0))) (hk : k ≤ N) (hn : n ≤ 9223372036854775807)
  (hz : ∀ k,k < n → ∃ b off z,A = some ⟨b,off,none⟩ ∧ b < g ∧ w.cell? ⟨b,off + k,none⟩ = some (.int .i64 z) ∧ I64 z) (q : Nat) :
  Str ((w.setCell ⟨g,1,none⟩ (.int .i64 ((k : Int) + 1))).drewN q) g (N + 1):=by
 refine ⟨A,n,c,k + 1,(str_set hb _).trans (by simp),by omega,hn,fun j hj => ?_⟩;obtain ⟨b,off,z,e,hne,hc,hi⟩:=hz j hj;refine ⟨b,off,z,e,hne,?_,hi⟩;exact (World.cell?_setCell_other w _ _ _ (by intro e; injection e; omega)).trans hc

theorem str_make {w : World} {A : Option Addr} {n c : Nat} (hn : n ≤ 9223372036854775807)
  (hz : ∀ k,k < n → ∃ b off z,A = some ⟨b,off,none⟩ ∧ b < w.heap.size ∧ w.cell? ⟨b,off + k,none⟩ = some (.int .i64 z) ∧ I64 z) :
  Str (w.alloc (.cells #[.slice A n c,.int .i64 0] 25)) w.heap.size 0:=by
 refine ⟨A,n,c,0,heap_alloc_new w _,Nat.le_refl _,hn,fun k hk => ?_⟩;obtain ⟨b,off,z,h1,h2,h3,h4⟩:=hz k hk;exact ⟨b,off,z,h1,h2,cell_al h3 _,h4⟩


def LawCall (f : Nat) (A : Option Addr) (n c : Nat) (w : World) : Prop:=Calls Tryz.prog f #[.slice A n c] w fun e w' => e = .returned (.bool true) ∧ Below w.heap.size w w'

set_option maxHeartbeats 400000 in
theorem next_any (g N : Nat) (m : Int) (w : World) (hs : Str w g N) (hN : N < 4611686018427387904) (hm : m ≤ 9223372036854775807) :
  Calls Tryz.prog 49 #[.pointer (some ⟨g,0,none⟩),.int .i64 m] w fun e w' => ∃ r : Int,e = .returned (.int .i64 r) ∧ 0 ≤ r ∧ (1 ≤ m → r < m) ∧ r ≤ 9223372036854775807 ∧ Str w' g (N + 1) ∧ w.grownBy w' (some g):=by
 obtain ⟨A,n,c,k,hb,hk,hn,hz⟩:=hs
 have c0 : w.cell? ⟨g,0,none⟩ = some (.slice A n c):=by rw [cell_of_row w g 0 _ _ _ hb]; rfl
 have c1 : w.cell? ⟨g,1,none⟩ = some (.int .i64 k):=by rw [cell_of_row w g 1 _ _ _ hb]; rfl
 have f1 : w.frozen? ⟨g,1,none⟩ = false:=by simp [World.frozen?,hb]
 by_cases h0 : n = 0
 ·subst h0
  go_enter Tryz.func49,Tryz.ntmps49
  go_wp2_with fail;refine (below_any _ _ _ (i64_wrap _) hm).mono ?_;rintro e w' ⟨r,rfl,h1,h2,h3,rfl⟩;go_wp2_with fail;go_ret;exact ⟨r,rfl,h1,h2,h3,str_next hb hk hn hz 0,grown_set (World.grownBy.refl _ _) _ _⟩
 ·have hk1 : k % n < n:=Nat.mod_lt _ (by omega)
  obtain ⟨b,off,z,rfl,hne,hc,hzz⟩:=hz (k % n) hk1
  have hc' : ∀ u,(w.setCell ⟨g,1,none⟩ u).cell? ⟨b,off + k % n,none⟩ = some (.int .i64 z):=fun u => (World.cell?_setCell_other w _ _ u (by intro e; injection e; omega)).trans hc
  clear hc
  go_enter Tryz.func49,Tryz.ntmps49
  go_wp2_with fail
  go_quiet (fail)
  go_wp2_with fail
  go_quiet (fail)
  go_wp2_with fail;refine (below_any _ _ _ hzz (by omega)).mono ?_;rintro e w' ⟨r1,rfl,h11,h12,h13,rfl⟩;go_wp2_with fail;refine (below_any _ _ _ (i64_wrap _) hm).mono ?_;rintro e w' ⟨r,rfl,h1,h2,h3,rfl⟩;go_wp2_with fail;go_ret;exact ⟨r,rfl,h1,h2,h3,str_next hb hk hn hz _,grown_drewN (grown_set (World.grownBy.refl _ _) _ _) _⟩

set_option maxHeartbeats 400000 in
theorem range_any (g N : Nat) (lo hi : Int) (w : World) (hs : Str w g N) (hN : N < 4611686018427387904) (h0 : -1000000000000 ≤ lo) (h1 : hi ≤ 1000000000000) (hlh : lo ≤ hi) :
  Calls Tryz.prog 150 #[.pointer (some ⟨g,0,none⟩),.int .i64 lo,.int .i64 hi] w fun e w' => ∃ r : Int,e = .returned (.int .i64 r) ∧ lo ≤ r ∧ r ≤ hi ∧ Str w' g (N + 1) ∧ w.grownBy w' (some g):=by
 go_enter Tryz.func150,Tryz.ntmps150
 go_wp2_with fail;refine (next_any g N _ _ hs hN (by omega)).mono ?_;rintro e w' ⟨r,rfl,h2,h3,h4,hs',hg⟩;have h5:=h3 (by omega);go_wp2_with fail;go_ret;exact ⟨_,rfl,by omega,by omega,hs',hg⟩

set_option maxHeartbeats 400000 in
theorem flip_any (g N : Nat) (m : Int) (w : World) (hs : Str w g N) (hN : N < 4611686018427387904) (hm : m ≤ 9223372036854775807) :
  Calls Tryz.prog 48 #[.pointer (some ⟨g,0,none⟩),.int .i64 m] w fun e w' => ∃ r : Bool,e = .returned (.bool r) ∧ Str w' g (N + 1) ∧ w.grownBy w' (some g):=by
 go_enter Tryz.func48,Tryz.ntmps48
 go_wp2_with fail;refine (next_any g N _ _ hs hN hm).mono ?_;rintro e w' ⟨r,rfl,h2,h3,h4,hs',hg⟩;go_wp2_with fail;go_ret;exact ⟨_,rfl,hs',hg⟩

set_option maxHeartbeats 400000 in
theorem pick_any (g N lo : Nat) (A : Option Addr) (c : Nat) (zs : List Int) (w : World) (hs : Str w g N) (hN : N < 4611686018427387904) (hr : Row w lo 1 A zs.length (ints zs)) (hlo : g < lo) (hz : 0 < zs.length) (hz' : zs.length ≤ 1000000) :
  Calls Tryz.prog 8 #[.pointer (some ⟨g,0,none⟩),.slice A zs.length c] w fun e w' => ∃ r : Int,e = .returned (.int .i64 r) ∧ r ∈ zs ∧ Str w' g (N + 1) ∧ w.grownBy w' (some g):=by
 go_enter Tryz.func8,Tryz.ntmps8
 go_wp2_with fail;refine (next_any g N _ _ hs hN (by omega)).mono ?_;rintro e w' ⟨r,rfl,h2,h3,h4,hs',hg⟩;have h5:=h3 (by omega);obtain ⟨k,rfl⟩:=Int.eq_ofNat_of_zero_le h2
 have hk : k < zs.length:=by omega
 obtain ⟨b,off,rfl,hlb,hb,hc⟩:=(hr.grown hg hlo).int_at hk;go_wp2_with fail;go_ret;exact ⟨_,rfl,List.getElem_mem _,hs',hg⟩

set_option maxHeartbeats 400000 in
theorem odd_any (g N : Nat) (lo hi : Int) (w : World) (hs : Str w g N) (hN : N < 4611686018427387900) (h0 : -1000000000000 ≤ lo) (h1 : hi ≤ 1000000000000) (hlh : lo ≤ hi) :
  Calls Tryz.prog 113 #[.pointer (some ⟨g,0,none⟩),.int .i64 lo,.int .i64 hi] w fun e w' => ∃ r : Int,e = .returned (.int .i64 r) ∧ -2000000000000 ≤ r ∧ r ≤ 2000000000000 ∧ Str w' g (N + 2) ∧ w.grownBy w' (some g):=by
 go_enter Tryz.func113,Tryz.ntmps113
 go_wp2_with fail;refine (flip_any g N _ _ hs (by omega) (by omega)).mono ?_;rintro e w' ⟨r,rfl,hs',hg⟩
 cases r
 ·go_wp2_with fail
  refine (range_any g (N + 1) _ _ _ hs' (by omega) h0 h1 hlh).mono ?_;rintro e w2 ⟨r,rfl,h3,h4,hs2,hg2⟩;go_wp2_with fail;go_ret;exact ⟨r,rfl,by omega,by omega,hs2,grown_trans' hg hg2⟩
 ·go_wp2_with fail
  refine (pick_any g (N + 1) _ _ _ [lo - 1,hi + 1,lo,hi,-1099511627776,1099511627776] _ (hs'.alloc _) (by omega) (row_new _ _ _ _ _ _ (Nat.le_refl _) rfl) hs'.lt (by simp) (by simp)).mono ?_;rintro e w2 ⟨r,rfl,h3,hs2,hg2⟩;go_wp2_with fail;go_ret
  refine ⟨r,rfl,?_,?_,hs2,grown_trans' (grown_alloc hg _) hg2⟩ <;> simp at h3 <;> omega
end Go.Proofs.YtjggbpchmbdocaaGreatDoor
/- The walk of base.Key at a key. -/
namespace Go.Proofs.YtjggbpchmbdocaaGreatDoor
open Go.RowKit

theorem keyC_cases {c : UInt8} (h : keyC c = true) : (97 ≤ c.toNat ∧ c.toNat ≤ 122) ∨ (48 ≤ c.toNat ∧ c.toNat ≤ 57) ∨ c.toNat = 45 ∨ c.toNat = 95:=by
 unfold keyC at h;simp only [Bool.or_eq_true,Bool.and_eq_true,decide_eq_true_eq,beq_iff_eq] at h;rcases h with ((h | h) | h) | h
 ·exact Or.inl h
 ·exact Or.inr (Or.inl h)
 ·subst h; exact Or.inr (Or.inr (Or.inl rfl))
 ·subst h; exact Or.inr (Or.inr (Or.inr rfl))
end Go.Proofs.YtjggbpchmbdocaaGreatDoor
/- The walk of the stream's function that draws an input: pieces of what is held. -/
namespace Go.Proofs.YtjggbpchmbdocaaGreatDoor
open Go.RowKit

theorem grown_app {w w1 w2 : World} {g base : Nat} {e : TypeId} {size : Nat} {v : Value} {n : Nat} {xs : List Value} (h : w.grownBy w1 (some g)) (hown : w1.ownsRow base e size v n xs) (hg : w1.grownBy w2 v.ownBlock) (hb : w.heap.size ≤ base) : w.grownBy w2 (some g) :=
 ⟨hg.os.trans h.os,hg.tape.trans h.tape,hg.output.trans h.output,Nat.le_trans h.size hg.size,fun i hi hne => (hg.block i (Nat.lt_of_lt_of_le hi h.size) (fun e => by have:=(hown.lt i e.symm).1; omega)).trans (h.block i hi hne)⟩

end Go.Proofs.YtjggbpchmbdocaaGreatDoor
/- The walks of what checks an input: bounds, frames, CheckInput and its reference. -/
namespace Go.Proofs.YtjggbpchmbdocaaGreatDoor
open Go.RowKit

set_option maxHeartbeats 400000 in
theorem out_any (n lo hi : Int) (w : World) :
  Calls Tryz.prog 97 #[.int .i64 n,.int .i64 lo,.int .i64 hi] w fun e w' => e = .returned (.bool (decide (n < lo) || decide (hi < n))) ∧ w = w':=by
 by_cases h : n < lo
 ·go_enter Tryz.func97,Tryz.ntmps97
  go_wp2
  go_ret;exact ⟨by simp [h],rfl⟩
 ·have h' : decide (n < lo) = false:=by simpa using h
  go_enter Tryz.func97,Tryz.ntmps97
  go_wp2
  go_ret;exact ⟨by simp,rfl⟩

set_option maxHeartbeats 400000 in
theorem in_any (n lo hi : Int) (w : World) :
  Calls Tryz.prog 105 #[.int .i64 n,.int .i64 lo,.int .i64 hi] w fun e w' => e = .returned (.bool (decide (lo ≤ n) && decide (n ≤ hi))) ∧ w = w':=by
 by_cases h : lo ≤ n
 ·go_enter Tryz.func105,Tryz.ntmps105
  go_wp2
  go_ret;exact ⟨by simp [h],rfl⟩
 ·have h' : decide (lo ≤ n) = false:=by simpa using h
  go_enter Tryz.func105,Tryz.ntmps105
  go_wp2
  go_ret;exact ⟨by simp,rfl⟩

def spanFault (n lo hi : Int) : Int:=if lo ≤ n ∧ n ≤ hi then 0 else 1

set_option maxHeartbeats 400000 in
theorem span_any (n lo hi : Int) (w : World) :
  Calls Tryz.prog 41 #[.int .i64 n,.int .i64 lo,.int .i64 hi] w fun e w' => e = .returned (.int .i64 (spanFault n lo hi)) ∧ w = w':=by
 go_enter Tryz.func41,Tryz.ntmps41
 go_wp2_with fail;refine (in_any _ _ _ _).mono ?_;rintro e w' ⟨rfl,rfl⟩
 by_cases h : lo ≤ n ∧ n ≤ hi
 ·have h' : (decide (lo ≤ n) && decide (n ≤ hi)) = true:=by simpa using h
  rw [h'];go_wp2_with fail;go_ret;exact ⟨ret_int' (by simp [spanFault,h]),rfl⟩
 ·have h' : (decide (lo ≤ n) && decide (n ≤ hi)) = false:=by simpa using h
  rw [h'];go_wp2_with fail;go_ret;exact ⟨ret_int' (by simp only [spanFault,h,if_false]),rfl⟩

end Go.Proofs.YtjggbpchmbdocaaGreatDoor
