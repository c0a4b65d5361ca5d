/- Texts of this seat, laid together: Stream Pieces InpA Key. -/
import Derived.Test.YtkchacgkjdeiaaaGreatDoorProg
import Derived.Deep.RegionHeld3
import Derived.Deep.LoopGhost
import Derived.Test.YtkchacgkjdeiaaaGreatDoorBf00
/- The walks of the stream that hands out numbers (package splitmake), each call by a contract. -/
set_option linter.unusedVariables false
set_option linter.unusedSimpArgs false
namespace Go.Proofs.YtkchacgkjdeiaaaGreatDoor
open Go.RowKit

theorem ty_ints : SliceTy Tryz.prog 22 3 1 8:=.mk' Tryz.underlying22 (z:=.int .i64 0) (by kernel_rfl) rfl (by decide)

def I64 (n : Int) : Prop:=-9223372036854775808 ≤ n ∧ n ≤ 9223372036854775807

def Str (w : World) (g N : Nat) : Prop :=
 ∃ (A : Option Addr) (n c : Nat) (at_ : Nat),w.heap[g]? = some (.cells #[.slice A n c,.int .i64 at_] 25 (0,0)) ∧ at_ ≤ N ∧ n ≤ 9223372036854775807 ∧
  ∀ k,k < n → ∃ b off z,A = some ⟨b,off,none⟩ ∧ b < g ∧ w.cell? ⟨b,off + k,none⟩ = some (.int .i64 z) ∧ I64 z

theorem Str.grown {w w' : World} {g N : Nat} {row : Option Nat} (h : Str w g N) (hb : w.grownBy w' row) (hr : ∀ k,row = some k → g < k) : Str w' g N:=by
 obtain ⟨A,n,c,at_,h1,h2,h3,h4⟩:=h;have hg : g < w.heap.size:=(Array.getElem?_eq_some_iff.1 h1).1;refine ⟨A,n,c,at_,(hb.block g hg (fun e => by have:=hr g e.symm; omega)).trans h1,h2,h3,fun k hk => ?_⟩;obtain ⟨b,off,z,e,hne,hc,hz⟩:=h4 k hk;exact ⟨b,off,z,e,hne,(World.cell?_of_block (w:=w) (hb.block b (by omega) (fun e => by have:=hr b e.symm; omega))).trans hc,hz⟩
theorem Str.keep {w w' : World} {g N : Nat} (h : Str w g N) (hb : Below w.heap.size w w') : Str w' g N:=h.grown (grown_of_below hb none) (fun k hk => by cases hk)
theorem Str.alloc {w : World} {g N : Nat} (h : Str w g N) (o : Obj) : Str (w.alloc o) g N:=h.keep ((Below.refl _ _).alloc (Nat.le_refl _) o)
theorem Str.app {w w' : World} {g N base : Nat} {e : TypeId} {size : Nat} {v : Value} {n : Nat} {xs : List Value} (h : Str w g N) (hown : w.ownsRow base e size v n xs) (hg : w.grownBy w' v.ownBlock) (hb : g < base) : Str w' g N :=
 h.grown hg fun k hk => by have:=(hown.lt k hk).1; omega
theorem Str.set {w : World} {g N : Nat} (h : Str w g N) {p : Addr} (hp : g < p.block) (u : Value) : Str (w.setCell p u) g N :=
 h.grown (row:=some p.block) ⟨rfl,rfl,rfl,by simp [World.setCell],fun k _ hk => Below.heap_setCell w p u k (fun e => hk (by rw [e]))⟩ (fun k hk => by injection hk with hk; omega)
theorem Str.drew {w : World} {g N : Nat} (h : Str w g N) : Str w.drew g N:=h
theorem Str.drewN {w : World} {g N : Nat} (h : Str w g N) (q : Nat) : Str (w.drewN q) g N:=h
theorem Str.more {w : World} {g N N' : Nat} (h : Str w g N) (hN : N ≤ N') : Str w g N':=by
 obtain ⟨A,n,c,at_,h1,h2,h3,h4⟩:=h;exact ⟨A,n,c,at_,h1,by omega,h3,h4⟩
theorem Str.lt {w : World} {g N : Nat} (h : Str w g N) : g < w.heap.size:=by
 obtain ⟨A,n,c,at_,h1,_⟩:=h;exact (Array.getElem?_eq_some_iff.1 h1).1

set_option maxHeartbeats 400000 in
theorem below_any (x n : Int) (w : World) (hx : I64 x) (hn' : n ≤ 9223372036854775807) :
  Calls Tryz.prog 62 #[.int .i64 x,.int .i64 n] w fun e w' => ∃ r : Int,e = .returned (.int .i64 r) ∧ 0 ≤ r ∧ (1 ≤ n → r < n) ∧ r ≤ 9223372036854775807 ∧ w = w':=by
 obtain ⟨hx,hx'⟩:=hx
 by_cases h : n < 1
 ·go_enter Tryz.func62,Tryz.ntmps62
  go_wp2
  go_ret;exact ⟨0,rfl,by omega,by omega,by omega,rfl⟩
 ·have h1 : 1 ≤ n:=by omega
  have h2 : x.tmod n < n:=Int.tmod_lt_of_pos _ (by omega)
  have h3 : -n < x.tmod n:=by
   have:=Int.tmod_lt_of_pos (-x) (b:=n) (by omega);rw [Int.neg_tmod] at this;omega
  go_enter Tryz.func62,Tryz.ntmps62
  go_wp2
  ·go_ret
   exact ⟨_,rfl,by omega,by omega,by omega,rfl⟩
  ·go_ret
   exact ⟨_,rfl,by omega,by omega,by omega,rfl⟩

theorem i64_wrap (n : Int) : I64 (wrap64 n):=by unfold I64 wrap64; omega
theorem str_set {w : World} {g : Nat} {x y : Value} {t : TypeId} (h : w.heap[g]? = some (.cells #[x,y] t (0,0))) (u : Value) : (w.setCell ⟨g,1,none⟩ u).heap[g]? = some (.cells #[x,u] t (0,0)):=by
 simp [World.setCell,Array.getElem?_modify,h]

theorem str_next {w : World} {g N : Nat} {A : Option Addr} {n c k : Nat} (hb : w.heap[g]? = some (.cells #[.slice A n c,.int .i64 k] 25 (0,0))) (hk : k ≤ N) (hn : n ≤ 9223372036854775807)
  (hz : ∀ k,k < n → ∃ b off z,A = some ⟨b,off,none⟩ ∧ b < g ∧ w.cell? ⟨b,off + k,none⟩ = some (.int .i64 z) ∧ I64 z) (q : Nat) :
  Str ((w.setCell ⟨g,1,none⟩ (.int .i64 ((k : Int) + 1))).drewN q) g (N + 1):=by
 refine ⟨A,n,c,k + 1,(str_set hb _).trans (by simp),by omega,hn,fun j hj => ?_⟩;obtain ⟨b,off,z,e,hne,hc,hi⟩:=hz j hj;refine ⟨b,off,z,e,hne,?_,hi⟩;exact (World.cell?_setCell_other w _ _ _ (by intro e; injection e; omega)).trans hc

theorem str_make {w : World} {A : Option Addr} {n c : Nat} (hn : n ≤ 9223372036854775807)
  (hz : ∀ k,k < n → ∃ b off z,A = some ⟨b,off,none⟩ ∧ b < w.heap.size ∧ w.cell? ⟨b,off + k,none⟩ = some (.int .i64 z) ∧ I64 z) :
  Str (w.alloc (.cells #[.slice A n c,.int .i64 0] 25)) w.heap.size 0:=by
 refine ⟨A,n,c,0,heap_alloc_new w _,Nat.le_refl _,hn,fun k hk => ?_⟩;obtain ⟨b,off,z,h1,h2,h3,h4⟩:=hz k hk;exact ⟨b,off,z,h1,h2,cell_al h3 _,h4⟩


def LawCall (f : Nat) (A : Option Addr) (n c : Nat) (w : World) : Prop:=Calls Tryz.prog f #[.slice A n c] w fun e w' => e = .returned (.bool true) ∧ Below w.heap.size w w'

set_option maxHeartbeats 400000 in
theorem next_any (g N : Nat) (m : Int) (w : World) (hs : Str w g N) (hN : N < 4611686018427387904) (hm : m ≤ 9223372036854775807) :
  Calls Tryz.prog 27 #[.pointer (some ⟨g,0,none⟩),.int .i64 m] w fun e w' => ∃ r : Int,e = .returned (.int .i64 r) ∧ 0 ≤ r ∧ (1 ≤ m → r < m) ∧ r ≤ 9223372036854775807 ∧ Str w' g (N + 1) ∧ w.grownBy w' (some g):=by
 obtain ⟨A,n,c,k,hb,hk,hn,hz⟩:=hs
 have c0 : w.cell? ⟨g,0,none⟩ = some (.slice A n c):=by rw [cell_of_row w g 0 _ _ _ hb]; rfl
 have c1 : w.cell? ⟨g,1,none⟩ = some (.int .i64 k):=by rw [cell_of_row w g 1 _ _ _ hb]; rfl
 have f1 : w.frozen? ⟨g,1,none⟩ = false:=by simp [World.frozen?,hb]
 by_cases h0 : n = 0
 ·subst h0
  go_enter Tryz.func27,Tryz.ntmps27
  go_wp2_with fail;refine (below_any _ _ _ (i64_wrap _) hm).mono ?_;rintro e w' ⟨r,rfl,h1,h2,h3,rfl⟩;go_wp2_with fail;go_ret;exact ⟨r,rfl,h1,h2,h3,str_next hb hk hn hz 0,grown_set (World.grownBy.refl _ _) _ _⟩
 ·have hk1 : k % n < n:=Nat.mod_lt _ (by omega)
  obtain ⟨b,off,z,rfl,hne,hc,hzz⟩:=hz (k % n) hk1
  have hc' : ∀ u,(w.setCell ⟨g,1,none⟩ u).cell? ⟨b,off + k % n,none⟩ = some (.int .i64 z):=fun u => (World.cell?_setCell_other w _ _ u (by intro e; injection e; omega)).trans hc
  clear hc
  go_enter Tryz.func27,Tryz.ntmps27
  go_wp2_with fail
  go_quiet (fail)
  go_wp2_with fail
  go_quiet (fail)
  go_wp2_with fail;refine (below_any _ _ _ hzz (by omega)).mono ?_;rintro e w' ⟨r1,rfl,h11,h12,h13,rfl⟩;go_wp2_with fail;refine (below_any _ _ _ (i64_wrap _) hm).mono ?_;rintro e w' ⟨r,rfl,h1,h2,h3,rfl⟩;go_wp2_with fail;go_ret;exact ⟨r,rfl,h1,h2,h3,str_next hb hk hn hz _,grown_drewN (grown_set (World.grownBy.refl _ _) _ _) _⟩

set_option maxHeartbeats 400000 in
theorem range_any (g N : Nat) (lo hi : Int) (w : World) (hs : Str w g N) (hN : N < 4611686018427387904) (h0 : -1000000000000 ≤ lo) (h1 : hi ≤ 1000000000000) (hlh : lo ≤ hi) :
  Calls Tryz.prog 26 #[.pointer (some ⟨g,0,none⟩),.int .i64 lo,.int .i64 hi] w fun e w' => ∃ r : Int,e = .returned (.int .i64 r) ∧ lo ≤ r ∧ r ≤ hi ∧ Str w' g (N + 1) ∧ w.grownBy w' (some g):=by
 go_enter Tryz.func26,Tryz.ntmps26
 go_wp2_with fail;refine (next_any g N _ _ hs hN (by omega)).mono ?_;rintro e w' ⟨r,rfl,h2,h3,h4,hs',hg⟩;have h5:=h3 (by omega);go_wp2_with fail;go_ret;exact ⟨_,rfl,by omega,by omega,hs',hg⟩

set_option maxHeartbeats 400000 in
theorem flip_any (g N : Nat) (m : Int) (w : World) (hs : Str w g N) (hN : N < 4611686018427387904) (hm : m ≤ 9223372036854775807) :
  Calls Tryz.prog 16 #[.pointer (some ⟨g,0,none⟩),.int .i64 m] w fun e w' => ∃ r : Bool,e = .returned (.bool r) ∧ Str w' g (N + 1) ∧ w.grownBy w' (some g):=by
 go_enter Tryz.func16,Tryz.ntmps16
 go_wp2_with fail;refine (next_any g N _ _ hs hN hm).mono ?_;rintro e w' ⟨r,rfl,h2,h3,h4,hs',hg⟩;go_wp2_with fail;go_ret;exact ⟨_,rfl,hs',hg⟩

set_option maxHeartbeats 400000 in
theorem pick_any (g N lo : Nat) (A : Option Addr) (c : Nat) (zs : List Int) (w : World) (hs : Str w g N) (hN : N < 4611686018427387904) (hr : Row w lo 1 A zs.length (ints zs)) (hlo : g < lo) (hz : 0 < zs.length) (hz' : zs.length ≤ 1000000) :
  Calls Tryz.prog 7 #[.pointer (some ⟨g,0,none⟩),.slice A zs.length c] w fun e w' => ∃ r : Int,e = .returned (.int .i64 r) ∧ r ∈ zs ∧ Str w' g (N + 1) ∧ w.grownBy w' (some g):=by
 go_enter Tryz.func7,Tryz.ntmps7
 go_wp2_with fail;refine (next_any g N _ _ hs hN (by omega)).mono ?_;rintro e w' ⟨r,rfl,h2,h3,h4,hs',hg⟩;have h5:=h3 (by omega);obtain ⟨k,rfl⟩:=Int.eq_ofNat_of_zero_le h2
 have hk : k < zs.length:=by omega
 obtain ⟨b,off,rfl,hlb,hb,hc⟩:=(hr.grown hg hlo).int_at hk;go_wp2_with fail;go_ret;exact ⟨_,rfl,List.getElem_mem _,hs',hg⟩

end Go.Proofs.YtkchacgkjdeiaaaGreatDoor
/- The walk of the stream's function that draws an input: pieces of what is held. -/
namespace Go.Proofs.YtkchacgkjdeiaaaGreatDoor
open Go.RowKit

theorem ty_prs : SliceTy Tryz.prog 28 39 2 16:=.mk' Tryz.underlying28 (z:=.agg #[.int .i64 0,.int .i64 0]) (by kernel_rfl) rfl (by decide)

theorem grown_app {w w1 w2 : World} {g base : Nat} {e : TypeId} {size : Nat} {v : Value} {n : Nat} {xs : List Value} (h : w.grownBy w1 (some g)) (hown : w1.ownsRow base e size v n xs) (hg : w1.grownBy w2 v.ownBlock) (hb : w.heap.size ≤ base) : w.grownBy w2 (some g) :=
 ⟨hg.os.trans h.os,hg.tape.trans h.tape,hg.output.trans h.output,Nat.le_trans h.size hg.size,fun i hi hne => (hg.block i (Nat.lt_of_lt_of_le hi h.size) (fun e => by have:=(hown.lt i e.symm).1; omega)).trans (h.block i hi hne)⟩

end Go.Proofs.YtkchacgkjdeiaaaGreatDoor
/- The walks of what checks an input: bounds, frames, CheckInput and its reference. -/
namespace Go.Proofs.YtkchacgkjdeiaaaGreatDoor
open Go.RowKit

set_option maxHeartbeats 400000 in
theorem out_any (n lo hi : Int) (w : World) :
  Calls Tryz.prog 45 #[.int .i64 n,.int .i64 lo,.int .i64 hi] w fun e w' => e = .returned (.bool (decide (n < lo) || decide (hi < n))) ∧ w = w':=by
 by_cases h : n < lo
 ·go_enter Tryz.func45,Tryz.ntmps45
  go_wp2
  go_ret;exact ⟨by simp [h],rfl⟩
 ·have h' : decide (n < lo) = false:=by simpa using h
  go_enter Tryz.func45,Tryz.ntmps45
  go_wp2
  go_ret;exact ⟨by simp,rfl⟩

def spanFault (n lo hi : Int) : Int:=if lo ≤ n ∧ n ≤ hi then 0 else 1

set_option maxHeartbeats 400000 in
theorem frames_any (A : Option Addr) (c lo : Nat) (ps : List (Int × Int)) (w : World) (hr : Row w lo 2 A ps.length (prs ps)) (hl : ps.length ≤ 1000000000) (hb : ∀ p ∈ ps,0 ≤ p.2) (hs : psum ps ≤ 1000000000000000) :
  Calls Tryz.prog 61 #[.slice A ps.length c] w fun e w' => e = .returned (.int .i64 (psum ps)) ∧ Below w.heap.size w w':=by
 go_enter Tryz.func61,Tryz.ntmps61
 go_wp2
 go_loopw [3,8] (fun n i wr => ∃ k : Nat,k ≤ ps.length ∧ i = .int .i64 k ∧ n = .int .i64 (psum (ps.take k)) ∧ Below w.heap.size w wr) (fun _ i _ => ps.length - (intOf i).toNat)
 case atStart => exact ⟨0,Nat.zero_le _,rfl,rfl,Below.refl _ _⟩
 case round =>
  obtain ⟨k,hk,rfl,rfl,hbw⟩:=hrel
  by_cases hlt : k < ps.length
  ·obtain ⟨b,off,rfl,_,hbs,c0,c1⟩:=(hr.below hbw).pr_at hlt
   have ht:=psum_take ps k hlt;have h1:=psum_take_le ps k hb;have h2:=psum_take_le ps (k + 1) hb;have HT:=Lib.hid ht;rw [ht] at h2;clear ht
   go_wp2
   go_roundw
   case rel => exact ⟨k + 1,by omega,by go_num,by rw [HT.out],hbw.alloc hbw.size _⟩
   case measure => simp [intOf]; omega
  ·go_wp2
   go_ret;exact ⟨ret_int' (by rw [List.take_of_length_le (by omega)]),hbw⟩

set_option maxHeartbeats 1000000 in
theorem checkInput_any (A : Option Addr) (c lo : Nat) (ps : List (Int × Int)) (w : World) (hr : Row w lo 2 A ps.length (prs ps)) (hl : ps.length ≤ 1000000000) :
  Calls Tryz.prog 60 #[.slice A ps.length c] w fun e w' => e = .returned (.int .i64 (inFault ps)) ∧ Below w.heap.size w w':=by
 by_cases hlong : 5000 < ps.length
 ·have HF:=Lib.hid (inFault_long ps hlong)
  go_enter Tryz.func60,Tryz.ntmps60
  go_wp2_with fail;go_ret;exact ⟨ret_int' HF.out.symm,Below.refl _ _⟩
 ·go_enter Tryz.func60,Tryz.ntmps60
  go_wp2_with fail
  go_loopw [10] (fun i wr => ∃ k : Nat,k ≤ ps.length ∧ i = .int .i64 k ∧ Hid (∀ p ∈ ps.take k,vld p = true) ∧ Below w.heap.size w wr) (fun i _ => ps.length - (intOf i).toNat)
  case atStart => exact ⟨0,Nat.zero_le _,rfl,Lib.hid (by simp),Below.refl _ _⟩
  case round =>
   obtain ⟨k,hk,rfl,hv,hbw⟩:=hrel
   by_cases hlt : k < ps.length
   ·obtain ⟨b,off,rfl,_,hbs,c0,c1⟩:=(hr.below hbw).pr_at hlt
    go_wp2_with fail;refine (out_any _ _ _ _).mono ?_;rintro e w1 ⟨rfl,rfl⟩
    by_cases h1 : 0 ≤ ps[k].1 ∧ ps[k].1 ≤ 63
    ·have h1' : (decide (ps[k].1 < 0) || decide (63 < ps[k].1)) = false:=by simp; omega
     rw [h1'];go_wp2_with fail;refine (out_any _ _ _ _).mono ?_;rintro e w1 ⟨rfl,rfl⟩
     by_cases h2 : 1 ≤ ps[k].2 ∧ ps[k].2 ≤ 200000
     ·have h2' : (decide (ps[k].2 < 1) || decide (200000 < ps[k].2)) = false:=by simp; omega
      have HV:=Lib.hid (take_all_vld hv.out hlt ((vld_iff _).2 ⟨h1.1,h1.2,h2.1,h2.2⟩));rw [h2'];go_wp2_with fail;go_roundw
      case rel => exact ⟨k + 1,by omega,by go_num,HV,hbw.alloc hbw.size _⟩
      case measure => simp [intOf]; omega
     ·have h2' : (decide (ps[k].2 < 1) || decide (200000 < ps[k].2)) = true:=by simp; omega
      have HF:=Lib.hid (inFault_bad ps k (by omega) hlt (by rw [Bool.eq_false_iff]; intro h; rw [vld_iff] at h; omega));rw [h2'];go_wp2_with fail;go_ret;exact ⟨ret_int' HF.out.symm,hbw.alloc hbw.size _⟩
    ·have h1' : (decide (ps[k].1 < 0) || decide (63 < ps[k].1)) = true:=by simp; omega
     have HF:=Lib.hid (inFault_bad ps k (by omega) hlt (by rw [Bool.eq_false_iff]; intro h; rw [vld_iff] at h; omega));rw [h1'];go_wp2_with fail;go_ret;exact ⟨ret_int' HF.out.symm,hbw.alloc hbw.size _⟩
   ·have hv' : ∀ p ∈ ps,vld p = true:=by have:=hv.out; rwa [List.take_of_length_le (by omega)] at this
    have hp : ∀ p ∈ ps,0 ≤ p.2 ∧ p.2 ≤ 200000:=fun p hp => by have:=(vld_iff p).1 (hv' p hp); omega
    have HF:=Lib.hid (inFault_good ps (by omega) hv')
    have hs:=psum_le ps 200000 (by omega) fun p h => (hp p h).2
    clear hv';go_wp2_with fail;refine (frames_any _ _ _ ps _ (hr.below hbw) hl (fun p h => (hp p h).1) (by omega)).mono ?_;rintro e w1 ⟨rfl,hb1⟩;clear hp
    by_cases h2 : 200000 < psum ps
    ·go_wp2_with fail
     go_ret;exact ⟨ret_int' (by rw [HF.out,if_pos h2]),below_up hbw hb1⟩
    ·go_wp2_with fail
     go_ret;exact ⟨ret_int' (by rw [HF.out,if_neg (by omega)]),below_up hbw hb1⟩

set_option maxHeartbeats 1000000 in
theorem tidy_any (A : Option Addr) (c lo : Nat) (ps : List (Int × Int)) (w : World) (hr : Row w lo 2 A ps.length (prs ps)) (hl : ps.length ≤ 1000000000) (hb : ∀ p ∈ ps,0 ≤ p.2) (hs : psum ps ≤ 1000000000000000) :
  Calls Tryz.prog 38 #[.slice A ps.length c] w fun e w' => ∃ A' c',e = .returned (.slice A' (tidyM ps).length c') ∧ w'.ownsRow w.heap.size 39 2 (.slice A' (tidyM ps).length c') (tidyM ps).length (prs (tidyM ps)) ∧ Below w.heap.size w w':=by
 go_enter Tryz.func38,Tryz.ntmps38
 go_wp2_with fail
 go_loopw [3,9] (fun v i wr => ∃ (k : Nat) (A' : Option Addr) (c' : Nat),k ≤ ps.length ∧ i = .int .i64 k ∧ v = .slice A' (tidyM (ps.take k)).length c' ∧ wr.ownsRow w.heap.size 39 2 (.slice A' (tidyM (ps.take k)).length c') (tidyM (ps.take k)).length (prs (tidyM (ps.take k))) ∧ Below w.heap.size w wr) (fun _ i _ => ps.length - (intOf i).toNat)
 case atStart => exact ⟨0,none,0,Nat.zero_le _,rfl,rfl,World.ownsRow_nil _ _ _ _,Below.refl _ _⟩
 case round =>
  obtain ⟨k,A',c',hk,rfl,rfl,hown,hbw⟩:=hrel
  by_cases hlt : k < ps.length
  ·obtain ⟨b,off,rfl,_,hbs,c0,c1⟩:=(hr.below hbw).pr_at hlt
   have HT:=Lib.hid (tidyM_take ps k hlt);have hlen:=tidyM_len (ps.take k);have hlen2:=List.length_take_le k ps;have hb0:=hb ps[k] (List.getElem_mem _);have hsum:=tidyM_psum (ps.take k);have hps:=psum_take_le ps k hb;have hps2:=psum_take_le ps (k + 1) hb;rw [psum_take ps k hlt] at hps2;have hmem:=tidyM_mem (ps.take k) (fun p hp => hb p (List.mem_of_mem_take hp));generalize tidyM (ps.take k) = o at *;have hz:=hbw.size
   by_cases h0 : ps[k].2 = 0
   ·have h0' : (ps[k].2 == 0) = true:=by simpa using h0
    have HE : Hid (tidyM (ps.take (k + 1)) = o):=Lib.hid (by rw [HT.out,h0,fadd_zero]);clear h0 hsum hmem;go_wp2_with fail;go_roundw
    case rel => exact ⟨k + 1,A',c',by omega,by go_num,by rw [HE.out],by rw [HE.out]; exact hown.alloc _,hbw.alloc hbw.size _⟩
    case measure => simp [intOf]; omega
   ·have h0' : (ps[k].2 == 0) = false:=by simpa using h0
    by_cases ho : o.length = 0
    ·have ho' : o = []:=List.eq_nil_of_length_eq_zero ho
     subst ho';have HE : Hid (tidyM (ps.take (k + 1)) = [(ps[k].1,ps[k].2)]):=Lib.hid (by rw [HT.out,fadd_first _ _ h0]);clear h0 hsum hmem;go_wp2_with fail
     go_quiet (fail)
     go_wp2_with (at_builtin; go_must (refine wpList_app (lo:=w.heap.size) (base:=w.heap.size) (n:=0) (xs:=[]) _ _ rfl _ _ ty_prs rfl (by repeat (first | exact hown | refine World.ownsRow.alloc ?_ _ | refine own_drewN ?_ _ | refine World.ownsRow.drew ?_)) rfl (by first | exact row_new' _ (by first | rfl | simp) (by first | omega | (simp; omega)) rfl | exact row_newN _ _ (by first | rfl | simp) (by first | omega | (simp; omega)) rfl | exact row_newD _ (by first | rfl | simp) (by first | omega | (simp; omega)) rfl) rfl rfl (by first | omega | decide) (by first | omega | decide) (by first | omega | (simp; omega)) ?_))
     intro A5 c5 w5 hown5 hg5 _;go_wp2_with fail;go_roundw
     case rel => exact ⟨k + 1,A5,c5,by omega,by go_num,by rw [HE.out]; rfl,by rw [HE.out]; exact hown5,below_app hown (by repeat (first | exact hbw | refine Below.alloc ?_ (by first | omega | (simp; omega)) _ | refine below_drewN' ?_ _ | refine Below.drew ?_)) hg5 (Nat.le_refl _) (by simp; omega)⟩
     case measure => simp [intOf]; omega
    ·have hj : o.length - 1 < o.length:=by omega
     obtain ⟨g,rfl,hg,hg',hcb,hfb⟩:=ownBlk hown (by omega);obtain ⟨e1,e2⟩:=prs_at o _ hj;have d1:=hcb _ _ e1;have d2:=hcb _ _ e2;have f2:=hfb ((o.length - 1) * 2 + 1);clear hcb hfb e1 e2
     by_cases he : (o[o.length - 1]'hj).1 = ps[k].1
     ·have HE : Hid (tidyM (ps.take (k + 1)) = o.set (o.length - 1) ((o[o.length - 1]'hj).1,(o[o.length - 1]'hj).2 + ps[k].2)):=Lib.hid (by rw [HT.out,fadd_bump o _ _ h0 (o.length - 1) (by omega) he])
      have he' : ((o[o.length - 1]'hj).1 == ps[k].1) = true:=by simpa using he
      have b1:=hmem _ (List.getElem_mem hj);have b2:=mem_le_psum o hmem _ (List.getElem_mem hj)
      have b3 : (o[o.length - 1]'hj).2 + ps[k].2 ≤ 1000000000000000:=by omega
      clear b2
      have q1 : 1 ≤ o.length:=by omega
      have q2 : (0 : Int) ≤ (o.length : Int) - 1:=by omega
      have q3 : decide ((1 : Int) ≤ (o.length : Int)) = true:=by simp; omega
      clear h0 hsum hmem he;go_wp2_with fail
      go_quiet (fail)
      go_wp2_with fail
      go_region
      go_wp2_with fail;go_roundw
      case rel => exact ⟨k + 1,some ⟨g,0,none⟩,c',by omega,by go_num,by rw [HE.out]; simp,by rw [HE.out,List.length_set]; exact own_prs_set (ps:=o) (c:=c') (by repeat (first | exact hown | refine World.ownsRow.alloc ?_ _ | refine own_drewN ?_ _ | refine World.ownsRow.drew ?_)) _ hj _,Below.setCell (by repeat (first | exact hbw | refine Below.alloc ?_ (by first | omega | (simp; omega)) _ | refine below_drewN' ?_ _ | refine Below.drew ?_)) (by simpa using hg) _⟩
      case measure => simp [intOf]; omega
     ·have HE : Hid (tidyM (ps.take (k + 1)) = o ++ [(ps[k].1,ps[k].2)]):=Lib.hid (by rw [HT.out,fadd_push o _ _ h0 (o.length - 1) (by omega) he])
      have he' : ((o[o.length - 1]'hj).1 == ps[k].1) = false:=by simpa using he
      have q1 : 1 ≤ o.length:=by omega
      have q2 : (0 : Int) ≤ (o.length : Int) - 1:=by omega
      have q3 : decide ((1 : Int) ≤ (o.length : Int)) = true:=by simp; omega
      clear h0 hsum hmem he;go_wp2_with fail
      go_quiet (fail)
      go_wp2_with (at_builtin; go_must (refine wpList_app (lo:=w.heap.size) (base:=w.heap.size) (n:=o.length) (xs:=prs o) _ _ rfl _ _ ty_prs rfl (by repeat (first | exact hown | refine World.ownsRow.alloc ?_ _ | refine own_drewN ?_ _ | refine World.ownsRow.drew ?_)) rfl (by first | exact row_new' _ (by first | rfl | simp) (by first | omega | (simp; omega)) rfl | exact row_newN _ _ (by first | rfl | simp) (by first | omega | (simp; omega)) rfl | exact row_newD _ (by first | rfl | simp) (by first | omega | (simp; omega)) rfl) rfl rfl (by first | omega | decide) (by first | omega | decide) (by first | omega | (simp; omega)) ?_))
      intro A5 c5 w5 hown5 hg5 _;go_wp2_with fail;go_roundw
      case rel => exact ⟨k + 1,A5,c5,by omega,by go_num,by rw [HE.out]; simp,by rw [HE.out,prs_app,List.length_append]; exact hown5,below_app hown (by repeat (first | exact hbw | refine Below.alloc ?_ (by first | omega | (simp; omega)) _ | refine below_drewN' ?_ _ | refine Below.drew ?_)) hg5 (Nat.le_refl _) (by simp; omega)⟩
      case measure => simp [intOf]; omega
  ·have ht : ps.take k = ps:=List.take_of_length_le (by omega)
   rw [ht] at hown;rw [ht];clear ht;go_wp2_with fail;go_ret;exact ⟨A',c',rfl,hown,hbw⟩
end Go.Proofs.YtkchacgkjdeiaaaGreatDoor
/- The walk of base.Key at a key. -/
namespace Go.Proofs.YtkchacgkjdeiaaaGreatDoor
open Go.RowKit

theorem keyB_size {s : ByteArray} (h : keyB s.data.toList = true) : 0 < s.size ∧ s.size ≤ 40 ∧ (∀ (k : Nat) (hk : k < s.size),keyC s[k] = true) ∧ ∃ h0 : 0 < s.size,97 ≤ s[0].toNat ∧ s[0].toNat ≤ 122:=by
 unfold keyB at h;simp only [Bool.and_eq_true,decide_eq_true_eq,List.all_eq_true] at h;obtain ⟨⟨⟨h1,h2⟩,h3,h4⟩,h5⟩:=h
 have e : s.data.toList.length = s.size:=by simp
 rw [e] at h1 h2
 have e0 : s.data.toList.headD 0 = s[0]:=by
  rw [List.headD_eq_head?_getD,List.head?_eq_getElem?,List.getElem?_eq_getElem (by omega)];rfl
 rw [e0] at h3 h4
 exact ⟨h1,h2,fun k hk => h5 _ (by
  have : s[k] = s.data.toList[k]'(by omega):=rfl
  rw [this]; exact List.getElem_mem _),h1,h3,h4⟩

theorem keyC_cases {c : UInt8} (h : keyC c = true) : (97 ≤ c.toNat ∧ c.toNat ≤ 122) ∨ (48 ≤ c.toNat ∧ c.toNat ≤ 57) ∨ c.toNat = 45 ∨ c.toNat = 95:=by
 unfold keyC at h;simp only [Bool.or_eq_true,Bool.and_eq_true,decide_eq_true_eq,beq_iff_eq] at h;rcases h with ((h | h) | h) | h
 ·exact Or.inl h
 ·exact Or.inr (Or.inl h)
 ·subst h; exact Or.inr (Or.inr (Or.inl rfl))
 ·subst h; exact Or.inr (Or.inr (Or.inr rfl))
set_option maxHeartbeats 1000000 in
theorem key_ok (s : ByteArray) (w : World) (h : keyB s.data.toList = true) : Calls Tryz.prog 122 #[.string s] w fun e w' => e = .returned (.bool true) ∧ w = w' := by
  obtain ⟨h1, h2, h3, _, h4, h5⟩ := keyB_size h;have H3 := Lib.hid h3;clear h h3
  have e1 : (s.toList == []) = false := by rw [ByteArray.toList_eq]; simp; intro h; have : s.size = 0 := by (have := congrArg Array.size h); simpa using this
                                           omega
  have c1 : decide ((s[0].toNat : Int) < 97) = false := by simp; omega
  have c2 : decide ((122 : Int) < (s[0].toNat : Int)) = false := by simp; omega
  have c3 : decide ((40 : Int) < (s.size : Int)) = false := by simp; omega
  go_enter Tryz.func122, Tryz.ntmps122
  go_wp2_with fail
  go_loop [24] (fun i => ∃ k : Nat, k ≤ s.size ∧ i = .int .i64 k) (fun i => s.size - (intOf i).toNat)
  case atStart => exact ⟨0, Nat.zero_le _, rfl⟩
  case round =>
    obtain ⟨k, hk, rfl⟩ := hrel
    by_cases hlt : k < s.size
    · have hc := keyC_cases (H3.out k hlt)
      rcases hc with hc | hc | hc | hc
      · have d1 : decide ((97 : Int) ≤ (s[k].toNat : Int)) = true := by simp; omega
        have d2 : decide ((s[k].toNat : Int) ≤ 122) = true := by simp; omega
        clear hc;go_wp2_with fail;go_round
        case rel => exact ⟨k + 1, by omega, by go_num⟩
        case measure => simp [intOf]; omega
      · have d1 : decide ((97 : Int) ≤ (s[k].toNat : Int)) = false := by simp; omega
        have d2 : decide ((48 : Int) ≤ (s[k].toNat : Int)) = true := by simp; omega
        have d3 : decide ((s[k].toNat : Int) ≤ 57) = true := by simp; omega
        clear hc;go_wp2_with fail;go_round
        case rel => exact ⟨k + 1, by omega, by go_num⟩
        case measure => simp [intOf]; omega
      · have d1 : decide ((97 : Int) ≤ (s[k].toNat : Int)) = false := by simp; omega
        have d2 : decide ((48 : Int) ≤ (s[k].toNat : Int)) = false := by simp; omega
        have d4 : ((s[k].toNat : Int) == 45) = true := by simp; omega
        clear hc;go_wp2_with fail;go_round
        case rel => exact ⟨k + 1, by omega, by go_num⟩
        case measure => simp [intOf]; omega
      · have d1 : decide ((97 : Int) ≤ (s[k].toNat : Int)) = false := by simp; omega
        have d2 : decide ((48 : Int) ≤ (s[k].toNat : Int)) = true := by simp; omega
        have d3 : decide ((s[k].toNat : Int) ≤ 57) = false := by simp; omega
        have d4 : ((s[k].toNat : Int) == 45) = false := by simp; omega
        have d5 : ((s[k].toNat : Int) == 95) = true := by simp; omega
        clear hc;go_wp2_with fail;go_round
        case rel => exact ⟨k + 1, by omega, by go_num⟩
        case measure => simp [intOf]; omega
    · go_wp2_with fail
      go_ret;exact ⟨rfl, rfl⟩
end Go.Proofs.YtkchacgkjdeiaaaGreatDoor
