/- Texts of this seat, laid together: Stream Pieces InpA Key Ex. -/
import Derived.Test.YtpialnjfdbfkdaaGreatDoorProg
import Derived.Deep.RegionHeld3
import Derived.Deep.LoopGhost
import Derived.Test.YtpialnjfdbfkdaaGreatDoorBs00
/- The walks of the stream that hands out numbers (package splitmake), each call by a contract. -/
set_option linter.unusedVariables false
set_option linter.unusedSimpArgs false
namespace Go.Proofs.YtpialnjfdbfkdaaGreatDoor
open Go.RowKit

theorem ty_ints : SliceTy Tryz.prog 22 3 1 8:=.mk' Tryz.underlying22 (z:=.int .i64 0) (by kernel_rfl) rfl (by decide)

def I64 (n : Int) : Prop:=-9223372036854775808 ≤ n ∧ n ≤ 9223372036854775807

def Str (w : World) (g N : Nat) : Prop :=
 ∃ (A : Option Addr) (n c : Nat) (at_ : Nat),w.heap[g]? = some (.cells #[.slice A n c,.int .i64 at_] 25 (0,0)) ∧ at_ ≤ N ∧ n ≤ 9223372036854775807 ∧
  ∀ k,k < n → ∃ b off z,A = some ⟨b,off,none⟩ ∧ b < g ∧ w.cell? ⟨b,off + k,none⟩ = some (.int .i64 z) ∧ I64 z

theorem Str.grown {w w' : World} {g N : Nat} {row : Option Nat} (h : Str w g N) (hb : w.grownBy w' row) (hr : ∀ k,row = some k → g < k) : Str w' g N:=by
 obtain ⟨A,n,c,at_,h1,h2,h3,h4⟩:=h
 have hg : g < w.heap.size:=(Array.getElem?_eq_some_iff.1 h1).1
 refine ⟨A,n,c,at_,(hb.block g hg (fun e => by have:=hr g e.symm; omega)).trans h1,h2,h3,fun k hk => ?_⟩
 obtain ⟨b,off,z,e,hne,hc,hz⟩:=h4 k hk
 exact ⟨b,off,z,e,hne,(World.cell?_of_block (w:=w) (hb.block b (by omega) (fun e => by have:=hr b e.symm; omega))).trans hc,hz⟩
theorem Str.keep {w w' : World} {g N : Nat} (h : Str w g N) (hb : Below w.heap.size w w') : Str w' g N:=h.grown (grown_of_below hb none) (fun k hk => by cases hk)
theorem Str.alloc {w : World} {g N : Nat} (h : Str w g N) (o : Obj) : Str (w.alloc o) g N:=h.keep ((Below.refl _ _).alloc (Nat.le_refl _) o)
theorem Str.app {w w' : World} {g N base : Nat} {e : TypeId} {size : Nat} {v : Value} {n : Nat} {xs : List Value} (h : Str w g N) (hown : w.ownsRow base e size v n xs) (hg : w.grownBy w' v.ownBlock) (hb : g < base) : Str w' g N :=
 h.grown hg fun k hk => by have:=(hown.lt k hk).1; omega
theorem Str.set {w : World} {g N : Nat} (h : Str w g N) {p : Addr} (hp : g < p.block) (u : Value) : Str (w.setCell p u) g N :=
 h.grown (row:=some p.block) ⟨rfl,rfl,rfl,by simp [World.setCell],fun k _ hk => Below.heap_setCell w p u k (fun e => hk (by rw [e]))⟩ (fun k hk => by injection hk with hk; omega)
theorem Str.drew {w : World} {g N : Nat} (h : Str w g N) : Str w.drew g N:=h
theorem Str.drewN {w : World} {g N : Nat} (h : Str w g N) (q : Nat) : Str (w.drewN q) g N:=h
theorem Str.more {w : World} {g N N' : Nat} (h : Str w g N) (hN : N ≤ N') : Str w g N':=by
 obtain ⟨A,n,c,at_,h1,h2,h3,h4⟩:=h
 exact ⟨A,n,c,at_,h1,by omega,h3,h4⟩
theorem Str.lt {w : World} {g N : Nat} (h : Str w g N) : g < w.heap.size:=by
 obtain ⟨A,n,c,at_,h1,_⟩:=h
 exact (Array.getElem?_eq_some_iff.1 h1).1

theorem i64_wrap (n : Int) : I64 (wrap64 n):=by unfold I64 wrap64; omega
theorem str_set {w : World} {g : Nat} {x y : Value} {t : TypeId} (h : w.heap[g]? = some (.cells #[x,y] t (0,0))) (u : Value) : (w.setCell ⟨g,1,none⟩ u).heap[g]? = some (.cells #[x,u] t (0,0)):=by
 simp [World.setCell,Array.getElem?_modify,h]

def LawCall (f : Nat) (A : Option Addr) (n c : Nat) (w : World) : Prop:=Calls Tryz.prog f #[.slice A n c] w fun e w' => e = .returned (.bool true) ∧ Below w.heap.size w w'

end Go.Proofs.YtpialnjfdbfkdaaGreatDoor
/- The walk of the stream's function that draws an input: pieces of what is held. -/
namespace Go.Proofs.YtpialnjfdbfkdaaGreatDoor
open Go.RowKit

theorem grown_app {w w1 w2 : World} {g base : Nat} {e : TypeId} {size : Nat} {v : Value} {n : Nat} {xs : List Value} (h : w.grownBy w1 (some g)) (hown : w1.ownsRow base e size v n xs) (hg : w1.grownBy w2 v.ownBlock) (hb : w.heap.size ≤ base) : w.grownBy w2 (some g) :=
 ⟨hg.os.trans h.os,hg.tape.trans h.tape,hg.output.trans h.output,Nat.le_trans h.size hg.size,fun i hi hne => (hg.block i (Nat.lt_of_lt_of_le hi h.size) (fun e => by have:=(hown.lt i e.symm).1; omega)).trans (h.block i hi hne)⟩

end Go.Proofs.YtpialnjfdbfkdaaGreatDoor
/- The walks of what checks an input: bounds, frames, CheckInput and its reference. -/
namespace Go.Proofs.YtpialnjfdbfkdaaGreatDoor
open Go.RowKit

set_option maxHeartbeats 400000 in
theorem out_any (n lo hi : Int) (w : World) :
  Calls Tryz.prog 106 #[.int .i64 n,.int .i64 lo,.int .i64 hi] w fun e w' => e = .returned (.bool (decide (n < lo) || decide (hi < n))) ∧ w = w':=by
 by_cases h : n < lo
 ·go_enter Tryz.func106,Tryz.ntmps106
  go_wp2
  go_ret
  exact ⟨by simp [h],rfl⟩
 ·have h' : decide (n < lo) = false:=by simpa using h
  go_enter Tryz.func106,Tryz.ntmps106
  go_wp2
  go_ret
  exact ⟨by simp,rfl⟩

set_option maxHeartbeats 400000 in
theorem frames_any (A : Option Addr) (c lo : Nat) (ps : List (Int × Int)) (w : World) (hr : Row w lo 2 A ps.length (prs ps)) (hl : ps.length ≤ 1000000000) (hb : ∀ p ∈ ps,0 ≤ p.2) (hs : psum ps ≤ 1000000000000000) :
  Calls Tryz.prog 112 #[.slice A ps.length c] w fun e w' => e = .returned (.int .i64 (psum ps)) ∧ Below w.heap.size w w':=by
 go_enter Tryz.func112,Tryz.ntmps112
 go_wp2
 go_loopw [3,8] (fun n i wr => ∃ k : Nat,k ≤ ps.length ∧ i = .int .i64 k ∧ n = .int .i64 (psum (ps.take k)) ∧ Below w.heap.size w wr) (fun _ i _ => ps.length - (intOf i).toNat)
 case atStart => exact ⟨0,Nat.zero_le _,rfl,rfl,Below.refl _ _⟩
 case round =>
  obtain ⟨k,hk,rfl,rfl,hbw⟩:=hrel
  by_cases hlt : k < ps.length
  ·obtain ⟨b,off,rfl,_,hbs,c0,c1⟩:=(hr.below hbw).pr_at hlt
   have ht:=psum_take ps k hlt
   have h1:=psum_take_le ps k hb
   have h2:=psum_take_le ps (k + 1) hb
   have HT:=Lib.hid ht
   rw [ht] at h2
   clear ht
   go_wp2
   go_roundw
   case rel => exact ⟨k + 1,by omega,by go_num,by rw [HT.out],hbw.alloc hbw.size _⟩
   case measure => simp [intOf]; omega
  ·go_wp2
   go_ret
   exact ⟨ret_int' (by rw [List.take_of_length_le (by omega)]),hbw⟩

set_option maxHeartbeats 1000000 in
theorem checkInput_any (A : Option Addr) (c lo : Nat) (ps : List (Int × Int)) (w : World) (hr : Row w lo 2 A ps.length (prs ps)) (hl : ps.length ≤ 1000000000) :
  Calls Tryz.prog 74 #[.slice A ps.length c] w fun e w' => e = .returned (.int .i64 (inFault ps)) ∧ Below w.heap.size w w':=by
 by_cases hlong : 5000 < ps.length
 ·have HF:=Lib.hid (inFault_long ps hlong)
  go_enter Tryz.func74,Tryz.ntmps74
  go_wp2_with fail
  go_ret
  exact ⟨ret_int' HF.out.symm,Below.refl _ _⟩
 ·go_enter Tryz.func74,Tryz.ntmps74
  go_wp2_with fail
  go_loopw [10] (fun i wr => ∃ k : Nat,k ≤ ps.length ∧ i = .int .i64 k ∧ Hid (∀ p ∈ ps.take k,vld p = true) ∧ Below w.heap.size w wr) (fun i _ => ps.length - (intOf i).toNat)
  case atStart => exact ⟨0,Nat.zero_le _,rfl,Lib.hid (by simp),Below.refl _ _⟩
  case round =>
   obtain ⟨k,hk,rfl,hv,hbw⟩:=hrel
   by_cases hlt : k < ps.length
   ·obtain ⟨b,off,rfl,_,hbs,c0,c1⟩:=(hr.below hbw).pr_at hlt
    go_wp2_with fail
    refine (out_any _ _ _ _).mono ?_
    rintro e w1 ⟨rfl,rfl⟩
    by_cases h1 : 0 ≤ ps[k].1 ∧ ps[k].1 ≤ 63
    ·have h1' : (decide (ps[k].1 < 0) || decide (63 < ps[k].1)) = false:=by simp; omega
     rw [h1']
     go_wp2_with fail
     refine (out_any _ _ _ _).mono ?_
     rintro e w1 ⟨rfl,rfl⟩
     by_cases h2 : 1 ≤ ps[k].2 ∧ ps[k].2 ≤ 200000
     ·have h2' : (decide (ps[k].2 < 1) || decide (200000 < ps[k].2)) = false:=by simp; omega
      have HV:=Lib.hid (take_all_vld hv.out hlt ((vld_iff _).2 ⟨h1.1,h1.2,h2.1,h2.2⟩))
      rw [h2']
      go_wp2_with fail
      go_roundw
      case rel => exact ⟨k + 1,by omega,by go_num,HV,hbw.alloc hbw.size _⟩
      case measure => simp [intOf]; omega
     ·have h2' : (decide (ps[k].2 < 1) || decide (200000 < ps[k].2)) = true:=by simp; omega
      have HF:=Lib.hid (inFault_bad ps k (by omega) hlt (by rw [Bool.eq_false_iff]; intro h; rw [vld_iff] at h; omega))
      rw [h2']
      go_wp2_with fail
      go_ret
      exact ⟨ret_int' HF.out.symm,hbw.alloc hbw.size _⟩
    ·have h1' : (decide (ps[k].1 < 0) || decide (63 < ps[k].1)) = true:=by simp; omega
     have HF:=Lib.hid (inFault_bad ps k (by omega) hlt (by rw [Bool.eq_false_iff]; intro h; rw [vld_iff] at h; omega))
     rw [h1']
     go_wp2_with fail
     go_ret
     exact ⟨ret_int' HF.out.symm,hbw.alloc hbw.size _⟩
   ·have hv' : ∀ p ∈ ps,vld p = true:=by have:=hv.out; rwa [List.take_of_length_le (by omega)] at this
    have hp : ∀ p ∈ ps,0 ≤ p.2 ∧ p.2 ≤ 200000:=fun p hp => by have:=(vld_iff p).1 (hv' p hp); omega
    have HF:=Lib.hid (inFault_good ps (by omega) hv')
    have hs:=psum_le ps 200000 (by omega) fun p h => (hp p h).2
    clear hv'
    go_wp2_with fail
    refine (frames_any _ _ _ ps _ (hr.below hbw) hl (fun p h => (hp p h).1) (by omega)).mono ?_
    rintro e w1 ⟨rfl,hb1⟩
    clear hp
    by_cases h2 : 200000 < psum ps
    ·go_wp2_with fail
     go_ret
     exact ⟨ret_int' (by rw [HF.out,if_pos h2]),below_up hbw hb1⟩
    ·go_wp2_with fail
     go_ret
     exact ⟨ret_int' (by rw [HF.out,if_neg (by omega)]),below_up hbw hb1⟩

end Go.Proofs.YtpialnjfdbfkdaaGreatDoor
/- The walk of base.Key at a key. -/
namespace Go.Proofs.YtpialnjfdbfkdaaGreatDoor
open Go.RowKit

theorem keyB_size {s : ByteArray} (h : keyB s.data.toList = true) : 0 < s.size ∧ s.size ≤ 40 ∧ (∀ (k : Nat) (hk : k < s.size),keyC s[k] = true) ∧ ∃ h0 : 0 < s.size,97 ≤ s[0].toNat ∧ s[0].toNat ≤ 122:=by
 unfold keyB at h
 simp only [Bool.and_eq_true,decide_eq_true_eq,List.all_eq_true] at h
 obtain ⟨⟨⟨h1,h2⟩,h3,h4⟩,h5⟩:=h
 have e : s.data.toList.length = s.size:=by simp
 rw [e] at h1 h2
 have e0 : s.data.toList.headD 0 = s[0]:=by
  rw [List.headD_eq_head?_getD,List.head?_eq_getElem?,List.getElem?_eq_getElem (by omega)]
  rfl
 rw [e0] at h3 h4
 exact ⟨h1,h2,fun k hk => h5 _ (by
  have : s[k] = s.data.toList[k]'(by omega):=rfl
  rw [this]; exact List.getElem_mem _),h1,h3,h4⟩

theorem keyC_cases {c : UInt8} (h : keyC c = true) : (97 ≤ c.toNat ∧ c.toNat ≤ 122) ∨ (48 ≤ c.toNat ∧ c.toNat ≤ 57) ∨ c.toNat = 45 ∨ c.toNat = 95:=by
 unfold keyC at h
 simp only [Bool.or_eq_true,Bool.and_eq_true,decide_eq_true_eq,beq_iff_eq] at h
 rcases h with ((h | h) | h) | h
 ·exact Or.inl h
 ·exact Or.inr (Or.inl h)
 ·subst h; exact Or.inr (Or.inr (Or.inl rfl))
 ·subst h; exact Or.inr (Or.inr (Or.inr rfl))
set_option maxHeartbeats 1000000 in
theorem key_ok (s : ByteArray) (w : World) (h : keyB s.data.toList = true) : Calls Tryz.prog 105 #[.string s] w fun e w' => e = .returned (.bool true) ∧ w = w' := by
  obtain ⟨h1, h2, h3, _, h4, h5⟩ := keyB_size h
  have H3 := Lib.hid h3
  clear h h3
  have e1 : (s.toList == []) = false := by rw [ByteArray.toList_eq]; simp; intro h; have : s.size = 0 := by (have := congrArg Array.size h); simpa using this
                                           omega
  have c1 : decide ((s[0].toNat : Int) < 97) = false := by simp; omega
  have c2 : decide ((122 : Int) < (s[0].toNat : Int)) = false := by simp; omega
  have c3 : decide ((40 : Int) < (s.size : Int)) = false := by simp; omega
  go_enter Tryz.func105, Tryz.ntmps105
  go_wp2_with fail
  go_loop [24] (fun i => ∃ k : Nat, k ≤ s.size ∧ i = .int .i64 k) (fun i => s.size - (intOf i).toNat)
  case atStart => exact ⟨0, Nat.zero_le _, rfl⟩
  case round =>
    obtain ⟨k, hk, rfl⟩ := hrel
    by_cases hlt : k < s.size
    · have hc := keyC_cases (H3.out k hlt)
      rcases hc with hc | hc | hc | hc
      · have d1 : decide ((97 : Int) ≤ (s[k].toNat : Int)) = true := by simp; omega
        have d2 : decide ((s[k].toNat : Int) ≤ 122) = true := by simp; omega
        clear hc
        go_wp2_with fail
        go_round
        case rel => exact ⟨k + 1, by omega, by go_num⟩
        case measure => simp [intOf]; omega
      · have d1 : decide ((97 : Int) ≤ (s[k].toNat : Int)) = false := by simp; omega
        have d2 : decide ((48 : Int) ≤ (s[k].toNat : Int)) = true := by simp; omega
        have d3 : decide ((s[k].toNat : Int) ≤ 57) = true := by simp; omega
        clear hc
        go_wp2_with fail
        go_round
        case rel => exact ⟨k + 1, by omega, by go_num⟩
        case measure => simp [intOf]; omega
      · have d1 : decide ((97 : Int) ≤ (s[k].toNat : Int)) = false := by simp; omega
        have d2 : decide ((48 : Int) ≤ (s[k].toNat : Int)) = false := by simp; omega
        have d4 : ((s[k].toNat : Int) == 45) = true := by simp; omega
        clear hc
        go_wp2_with fail
        go_round
        case rel => exact ⟨k + 1, by omega, by go_num⟩
        case measure => simp [intOf]; omega
      · have d1 : decide ((97 : Int) ≤ (s[k].toNat : Int)) = false := by simp; omega
        have d2 : decide ((48 : Int) ≤ (s[k].toNat : Int)) = true := by simp; omega
        have d3 : decide ((s[k].toNat : Int) ≤ 57) = false := by simp; omega
        have d4 : ((s[k].toNat : Int) == 45) = false := by simp; omega
        have d5 : ((s[k].toNat : Int) == 95) = true := by simp; omega
        clear hc
        go_wp2_with fail
        go_round
        case rel => exact ⟨k + 1, by omega, by go_num⟩
        case measure => simp [intOf]; omega
    · go_wp2_with fail
      go_ret
      exact ⟨rfl, rfl⟩
end Go.Proofs.YtpialnjfdbfkdaaGreatDoor
/- The stream whose numbers are known: what each draw hands out, as a function. -/
namespace Go.Proofs.YtpialnjfdbfkdaaGreatDoor
open Go.RowKit
variable {sB : Nat}

def bel (x n : Int) : Int:=if n < 1 then 0 else if x.tmod n < 0 then x.tmod n + n else x.tmod n
theorem bel_bd (x n : Int) (hn : n ≤ 9223372036854775807) : 0 ≤ bel x n ∧ (1 ≤ n → bel x n < n) ∧ bel x n ≤ 9223372036854775807:=by
 unfold bel
 by_cases h : n < 1
 ·rw [if_pos h]; omega
 ·rw [if_neg h]
  have h2 : x.tmod n < n:=Int.tmod_lt_of_pos _ (by omega)
  have h3 : -n < x.tmod n:=by
   have:=Int.tmod_lt_of_pos (-x) (b:=n) (by omega)
   rw [Int.neg_tmod] at this
   omega
  split <;> omega
set_option maxHeartbeats 400000 in
theorem below_ex (x n : Int) (w : World) (hx : I64 x) (hn' : n ≤ 9223372036854775807) :
  Calls Tryz.prog 68 #[.int .i64 x,.int .i64 n] w fun e w' => e = .returned (.int .i64 (bel x n)) ∧ w = w':=by
 obtain ⟨hx,hx'⟩:=hx
 by_cases h : n < 1
 ·have HB : Hid (bel x n = 0):=Lib.hid (by unfold bel; rw [if_pos h])
  go_enter Tryz.func68,Tryz.ntmps68
  go_wp2
  go_ret
  exact ⟨ret_int' HB.out.symm,rfl⟩
 ·have h1 : 1 ≤ n:=by omega
  have h2 : x.tmod n < n:=Int.tmod_lt_of_pos _ (by omega)
  have h3 : -n < x.tmod n:=by
   have:=Int.tmod_lt_of_pos (-x) (b:=n) (by omega)
   rw [Int.neg_tmod] at this
   omega
  have HB : Hid (bel x n = if x.tmod n < 0 then x.tmod n + n else x.tmod n):=Lib.hid (by unfold bel; rw [if_neg h])
  clear h
  go_enter Tryz.func68,Tryz.ntmps68
  go_wp2
  ·rename_i h9
   go_ret
   exact ⟨ret_int' (by rw [HB.out,if_pos (by first | exact h9 | simpa using h9)]),rfl⟩
  ·rename_i h9
   go_ret
   exact ⟨ret_int' (by rw [HB.out,if_neg (by first | exact h9 | simpa using h9)]),rfl⟩
def StrE (w : World) (g sB : Nat) (L : List Int) (k : Nat) : Prop :=
 ∃ (A : Option Addr) (c : Nat),w.heap[g]? = some (.cells #[.slice A L.length c,.int .i64 k] 25 (0,0)) ∧ L.length ≤ 9223372036854775807 ∧
  ∀ j,∀ h : j < L.length,∃ b off,A = some ⟨b,off,none⟩ ∧ (b < g ∧ b < sB) ∧ w.cell? ⟨b,off + j,none⟩ = some (.int .i64 L[j]) ∧ I64 L[j]
section
variable {w w' : World} {g k : Nat} {L : List Int}
theorem StrE.str (h : StrE w g sB L k) : Str w g k:=by
 obtain ⟨A,c,h1,h2,h3⟩:=h
 refine ⟨A,L.length,c,k,h1,Nat.le_refl _,h2,fun j hj => ?_⟩
 obtain ⟨b,off,e,hb,hc,hi⟩:=h3 j hj
 exact ⟨b,off,_,e,hb.1,hc,hi⟩
theorem StrE.grown {row : Option Nat} (h : StrE w g sB L k) (hb : w.grownBy w' row) (hr : ∀ j,row = some j → g < j) : StrE w' g sB L k:=by
 obtain ⟨A,c,h1,h3,h4⟩:=h
 have hg : g < w.heap.size:=(Array.getElem?_eq_some_iff.1 h1).1
 refine ⟨A,c,(hb.block g hg (fun e => by have:=hr g e.symm; omega)).trans h1,h3,fun j hj => ?_⟩
 obtain ⟨b,off,e,hne,hc,hz⟩:=h4 j hj
 exact ⟨b,off,e,hne,(World.cell?_of_block (w:=w) (hb.block b (by omega) (fun e => by have:=hr b e.symm; omega))).trans hc,hz⟩
theorem StrE.other {j : Nat} (h : StrE w g sB L k) (hb : w.grownBy w' (some j)) (hr : j ≠ g) (hB : sB ≤ j) : StrE w' g sB L k:=by
 obtain ⟨A,c,h1,h3,h4⟩:=h
 have hg : g < w.heap.size:=(Array.getElem?_eq_some_iff.1 h1).1
 refine ⟨A,c,(hb.block g hg (fun e => by injection e with e; exact hr e.symm)).trans h1,h3,fun j' hj => ?_⟩
 obtain ⟨b,off,e,hne,hc,hz⟩:=h4 j' hj
 exact ⟨b,off,e,hne,(World.cell?_of_block (w:=w) (hb.block b (by omega) (fun e => by injection e with e; omega))).trans hc,hz⟩
theorem StrE.keep (h : StrE w g sB L k) (hb : Below w.heap.size w w') : StrE w' g sB L k:=h.grown (grown_of_below hb none) (fun k hk => by cases hk)
theorem StrE.alloc (h : StrE w g sB L k) (o : Obj) : StrE (w.alloc o) g sB L k:=h.keep ((Below.refl _ _).alloc (Nat.le_refl _) o)
theorem StrE.app {base : Nat} {e : TypeId} {size : Nat} {v : Value} {n : Nat} {xs : List Value} (h : StrE w g sB L k) (hown : w.ownsRow base e size v n xs) (hg : w.grownBy w' v.ownBlock) (hb : g < base) : StrE w' g sB L k :=
 h.grown hg fun k hk => by have:=(hown.lt k hk).1; omega
theorem StrE.set (h : StrE w g sB L k) {p : Addr} (hp : g < p.block) (u : Value) : StrE (w.setCell p u) g sB L k :=
 h.grown (row:=some p.block) ⟨rfl,rfl,rfl,by simp [World.setCell],fun k _ hk => Below.heap_setCell w p u k (fun e => hk (by rw [e]))⟩ (fun k hk => by injection hk with hk; omega)
theorem StrE.drew (h : StrE w g sB L k) : StrE w.drew g sB L k:=h
theorem StrE.drewN (h : StrE w g sB L k) (q : Nat) : StrE (w.drewN q) g sB L k:=h
theorem StrE.lt (h : StrE w g sB L k) : g < w.heap.size:=h.str.lt
end
theorem strE_next {w : World} {g : Nat} {A : Option Addr} {c k : Nat} {L : List Int} (hb : w.heap[g]? = some (.cells #[.slice A L.length c,.int .i64 k] 25 (0,0))) (hn : L.length ≤ 9223372036854775807)
  (hz : ∀ j,∀ h : j < L.length,∃ b off,A = some ⟨b,off,none⟩ ∧ (b < g ∧ b < sB) ∧ w.cell? ⟨b,off + j,none⟩ = some (.int .i64 L[j]) ∧ I64 L[j]) (q : Nat) :
  StrE ((w.setCell ⟨g,1,none⟩ (.int .i64 ((k : Int) + 1))).drewN q) g sB L (k + 1):=by
 refine ⟨A,c,(str_set hb _).trans (by simp),hn,fun j hj => ?_⟩
 obtain ⟨b,off,e,hne,hc,hi⟩:=hz j hj
 refine ⟨b,off,e,hne,?_,hi⟩
 exact (World.cell?_setCell_other w _ _ _ (by intro e; injection e; omega)).trans hc
def nx (L : List Int) (k : Nat) (m : Int) : Int :=
 if L.length = 0 then bel (wrap64 (((k : Int) + 1) * 7919)) m
 else bel (wrap64 (bel (L.getD (k % L.length) 0) 1073741824 + wrap64 (wrap64 ((k : Int) / (L.length : Int)) * wrap64 (7919 + (k : Int) % (L.length : Int))))) m
theorem nx_bd (L : List Int) (k : Nat) (m : Int) (hm : m ≤ 9223372036854775807) : 0 ≤ nx L k m ∧ (1 ≤ m → nx L k m < m) ∧ nx L k m ≤ 9223372036854775807:=by
 unfold nx
 split <;> exact bel_bd _ _ hm
set_option maxHeartbeats 400000 in
theorem next_ex (g k : Nat) (L : List Int) (m : Int) (w : World) (hs : StrE w g sB L k) (hN : k < 4611686018427387904) (hm : m ≤ 9223372036854775807) :
  Calls Tryz.prog 26 #[.pointer (some ⟨g,0,none⟩),.int .i64 m] w fun e w' => e = .returned (.int .i64 (nx L k m)) ∧ StrE w' g sB L (k + 1) ∧ w.grownBy w' (some g):=by
 obtain ⟨A,c,hb,hn,hz⟩:=hs
 have c0 : w.cell? ⟨g,0,none⟩ = some (.slice A L.length c):=by rw [cell_of_row w g 0 _ _ _ hb]; rfl
 have c1 : w.cell? ⟨g,1,none⟩ = some (.int .i64 k):=by rw [cell_of_row w g 1 _ _ _ hb]; rfl
 have f1 : w.frozen? ⟨g,1,none⟩ = false:=by simp [World.frozen?,hb]
 have HNX : Hid (nx L k m = nx L k m):=Lib.hid rfl
 by_cases h0 : L.length = 0
 ·have hL : L = []:=List.eq_nil_of_length_eq_zero h0
  subst hL
  have HS:=Lib.hid (fun q => strE_next hb hn hz q)
  have HX : Hid (nx [] k m = bel (wrap64 (((k : Int) + 1) * 7919)) m):=Lib.hid (by simp [nx])
  clear hz hb h0
  go_enter Tryz.func26,Tryz.ntmps26
  go_wp2_with fail
  refine (below_ex _ _ _ (i64_wrap _) hm).mono ?_
  rintro e w' ⟨rfl,rfl⟩
  go_wp2_with fail
  go_ret
  exact ⟨ret_int' HX.out.symm,HS.out 0,grown_set (World.grownBy.refl _ _) _ _⟩
 ·have hk1 : k % L.length < L.length:=Nat.mod_lt _ (by omega)
  have HS:=Lib.hid (fun q => strE_next hb hn hz q)
  obtain ⟨b,off,rfl,hne,hc,hzz⟩:=hz (k % L.length) hk1
  have HX : Hid (nx L k m = bel (wrap64 (bel L[k % L.length] 1073741824 + wrap64 (wrap64 ((k : Int) / (L.length : Int)) * wrap64 (7919 + (k : Int) % (L.length : Int))))) m):=Lib.hid (by
   unfold nx
   rw [if_neg h0,List.getD_eq_getElem?_getD,List.getElem?_eq_getElem hk1]; rfl)
  generalize L[k % L.length] = z at *
  have hc' : ∀ u,(w.setCell ⟨g,1,none⟩ u).cell? ⟨b,off + k % L.length,none⟩ = some (.int .i64 z):=fun u => (World.cell?_setCell_other w _ _ u (by intro e; injection e; omega)).trans hc
  clear hc hz
  go_enter Tryz.func26,Tryz.ntmps26
  go_wp2_with fail
  go_quiet (fail)
  go_wp2_with fail
  go_quiet (fail)
  go_wp2_with fail
  refine (below_ex _ _ _ hzz (by omega)).mono ?_
  rintro e w' ⟨rfl,rfl⟩
  obtain ⟨b1,b2,b3⟩:=bel_bd z 1073741824 (by omega)
  generalize bel z 1073741824 = z1 at *
  go_wp2_with fail
  refine (below_ex _ _ _ (i64_wrap _) hm).mono ?_
  rintro e w' ⟨rfl,rfl⟩
  go_wp2_with fail
  go_ret
  exact ⟨ret_int' HX.out.symm,HS.out _,grown_drewN (grown_set (World.grownBy.refl _ _) _ _) _⟩
def rg (L : List Int) (k : Nat) (lo hi : Int) : Int:=lo + nx L k (hi - lo + 1)
theorem rg_bd (L : List Int) (k : Nat) {lo hi : Int} (h0 : -1000000000000 ≤ lo) (h1 : hi ≤ 1000000000000) (hlh : lo ≤ hi) : lo ≤ rg L k lo hi ∧ rg L k lo hi ≤ hi:=by
 have:=nx_bd L k (hi - lo + 1) (by omega)
 unfold rg
 have h2:=this.2.1 (by omega)
 omega
set_option maxHeartbeats 400000 in
theorem range_ex (g k : Nat) (L : List Int) (lo hi : Int) (w : World) (hs : StrE w g sB L k) (hN : k < 4611686018427387904) (h0 : -1000000000000 ≤ lo) (h1 : hi ≤ 1000000000000) (hlh : lo ≤ hi) :
  Calls Tryz.prog 19 #[.pointer (some ⟨g,0,none⟩),.int .i64 lo,.int .i64 hi] w fun e w' => e = .returned (.int .i64 (rg L k lo hi)) ∧ StrE w' g sB L (k + 1) ∧ w.grownBy w' (some g):=by
 have HB:=Lib.hid (rg_bd L k h0 h1 hlh)
 have HR : Hid (rg L k lo hi = lo + nx L k (hi - lo + 1)):=Lib.hid rfl
 go_enter Tryz.func19,Tryz.ntmps19
 go_wp2_with fail
 refine (next_ex g k L _ _ hs hN (by omega)).mono ?_
 rintro e w' ⟨rfl,hs',hg⟩
 have hb:=HB.out
 rw [HR.out] at hb
 generalize nx L k (hi - lo + 1) = r at *
 go_wp2_with fail
 go_ret
 exact ⟨ret_int' HR.out.symm,hs',hg⟩
set_option maxHeartbeats 400000 in
theorem flip_ex (g k : Nat) (L : List Int) (m : Int) (w : World) (hs : StrE w g sB L k) (hN : k < 4611686018427387904) (hm : m ≤ 9223372036854775807) :
  Calls Tryz.prog 25 #[.pointer (some ⟨g,0,none⟩),.int .i64 m] w fun e w' => e = .returned (.bool (decide (nx L k m = 0))) ∧ StrE w' g sB L (k + 1) ∧ w.grownBy w' (some g):=by
 go_enter Tryz.func25,Tryz.ntmps25
 go_wp2_with fail
 refine (next_ex g k L _ _ hs hN hm).mono ?_
 rintro e w' ⟨rfl,hs',hg⟩
 have hd : (nx L k m == 0) = decide (nx L k m = 0):=by
  by_cases h : nx L k m = 0
  ·rw [h]; rfl
  ·rw [decide_eq_false h]; simpa using h
 have HD:=Lib.hid hd
 clear hd
 go_wp2_with fail
 go_ret
 exact ⟨ret_bool' HD.out,hs',hg⟩
def pk (L : List Int) (k : Nat) (zs : List Int) : Int:=zs.getD (nx L k zs.length).toNat 0
theorem pk_mem (L : List Int) (k : Nat) {zs : List Int} (hz : 0 < zs.length) (hz' : zs.length ≤ 1000000) : pk L k zs ∈ zs:=by
 have h:=nx_bd L k zs.length (by omega)
 have h2:=h.2.1 (by omega)
 unfold pk
 rw [List.getD_eq_getElem?_getD,List.getElem?_eq_getElem (by omega)]
 exact List.getElem_mem _
set_option maxHeartbeats 400000 in
theorem pick_ex (g k lo : Nat) (L : List Int) (A : Option Addr) (c : Nat) (zs : List Int) (w : World) (hs : StrE w g sB L k) (hN : k < 4611686018427387904) (hr : Row w lo 1 A zs.length (ints zs)) (hlo : g < lo) (hz : 0 < zs.length) (hz' : zs.length ≤ 1000000) :
  Calls Tryz.prog 23 #[.pointer (some ⟨g,0,none⟩),.slice A zs.length c] w fun e w' => e = .returned (.int .i64 (pk L k zs)) ∧ StrE w' g sB L (k + 1) ∧ w.grownBy w' (some g):=by
 go_enter Tryz.func23,Tryz.ntmps23
 go_wp2_with fail
 refine (next_ex g k L _ _ hs hN (by omega)).mono ?_
 rintro e w' ⟨rfl,hs',hg⟩
 obtain ⟨h2,h3,h4⟩:=nx_bd L k zs.length (by omega)
 have h5:=h3 (by omega)
 have HP : Hid (pk L k zs = zs.getD (nx L k zs.length).toNat 0):=Lib.hid rfl
 generalize nx L k zs.length = r at *
 obtain ⟨j,rfl⟩:=Int.eq_ofNat_of_zero_le h2
 have hk : j < zs.length:=by omega
 obtain ⟨b,off,rfl,hlb,hb,hc⟩:=(hr.grown hg hlo).int_at hk
 have HQ : Hid (pk L k zs = zs[j]):=Lib.hid (by rw [HP.out,Int.toNat_natCast,List.getD_eq_getElem?_getD,List.getElem?_eq_getElem hk]; rfl)
 go_wp2_with fail
 go_ret
 exact ⟨ret_int' HQ.out.symm,hs',hg⟩
theorem strE_make {w : World} {A : Option Addr} {n c : Nat} (hn : n ≤ 9223372036854775807)
  (hz : ∀ k,k < n → ∃ b off z,A = some ⟨b,off,none⟩ ∧ b < w.heap.size ∧ w.cell? ⟨b,off + k,none⟩ = some (.int .i64 z) ∧ I64 z) :
  ∃ L : List Int,L.length = n ∧ StrE (w.alloc (.cells #[.slice A n c,.int .i64 0] 25)) w.heap.size w.heap.size L 0 ∧ ∀ j,∀ h : j < L.length,∃ b off,A = some ⟨b,off,none⟩ ∧ b < w.heap.size ∧ w.cell? ⟨b,off + j,none⟩ = some (.int .i64 L[j]) ∧ I64 L[j]:=by
 have key : ∃ L : List Int,L.length = n ∧ ∀ j,∀ h : j < L.length,∃ b off,A = some ⟨b,off,none⟩ ∧ b < w.heap.size ∧ w.cell? ⟨b,off + j,none⟩ = some (.int .i64 L[j]) ∧ I64 L[j]:=by
  clear hn
  induction n with
  | zero => exact ⟨[],rfl,fun j h => absurd h (Nat.not_lt_zero _)⟩
  | succ n ih =>
   obtain ⟨L,hl,hL⟩:=ih (fun k hk => hz k (by omega))
   subst hl
   obtain ⟨b,off,z,e,hb,hc,hi⟩:=hz L.length (by omega)
   refine ⟨L ++ [z],by simp,fun j hj => ?_⟩
   by_cases h : j < L.length
   ·rw [List.getElem_append_left h]; exact hL j h
   ·have hj2 : j = L.length:=by simp at hj; omega
    subst hj2
    refine ⟨b,off,e,hb,?_,?_⟩
    ·rw [hc]; simp
    ·simpa using hi
 obtain ⟨L,hl,hL⟩:=key
 subst hl
 refine ⟨L,rfl,⟨A,c,heap_alloc_new w _,hn,fun j hj => ?_⟩,hL⟩
 obtain ⟨b,off,e,hb,hc,hi⟩:=hL j hj
 exact ⟨b,off,e,⟨hb,hb⟩,cell_al hc _,hi⟩
theorem strE_two {w w1 : World} {A : Option Addr} {c : Nat} {L : List Int} (hn : L.length ≤ 9223372036854775807) (hx : Below w.heap.size w w1)
  (hL : ∀ j,∀ h : j < L.length,∃ b off,A = some ⟨b,off,none⟩ ∧ b < w.heap.size ∧ w.cell? ⟨b,off + j,none⟩ = some (.int .i64 L[j]) ∧ I64 L[j]) :
  StrE (w1.alloc (.cells #[.slice A L.length c,.int .i64 0] 25)) w1.heap.size w.heap.size L 0:=by
 have hsz:=hx.size
 refine ⟨A,c,heap_alloc_new w1 _,hn,fun j hj => ?_⟩
 obtain ⟨b,off,e,hb,hc,hi⟩:=hL j hj
 exact ⟨b,off,e,⟨Nat.lt_of_lt_of_le hb hsz,hb⟩,cell_al ((hx.cell hb).trans hc) _,hi⟩
end Go.Proofs.YtpialnjfdbfkdaaGreatDoor
